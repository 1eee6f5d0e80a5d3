/- The reference of package span (baffleref04), walked: Right, Wrong, less, Without, Others, Of, Union, Common; the law's turned. -/
import Derived.Test.YtgfkcbflnkpogaaGreatDoorSpWrP
import Derived.Test.YtgfkcbflnkpogaaGreatDoorRowPut2
set_option linter.unusedSimpArgs false
set_option linter.unusedVariables false
namespace Go.Ab
open Go.RowKit
def rsCells (x : Sp) : List Value := [.int .i64 x.1, .int .i64 x.2]
theorem rsCells_length (x : Sp) : (rsCells x).length = 2 := rfl
abbrev RsRow (w : World) (v : Value) (s : List Sp) : Prop := RowOf rsCells 2 w v s
theorem rs_one (e : Sp) (u : Value) (h : u ∈ rsCells e) : u.oneCell' = true := by
  unfold rsCells at h
  simp only [List.mem_cons, List.mem_nil_iff, or_false] at h
  rcases h with rfl | rfl <;> rfl
theorem rs_at {w : World} {v : Value} {s : List Sp} (h : RsRow w v s) {p : Option Addr} {n cap : Nat} (hv : v = .slice p n cap) {k : Nat} {x : Sp} (hx : s[k]? = some x) :
    ∃ b o, p = some ⟨b, o, none⟩ ∧ b < w.heap.size ∧ w.cell? ⟨b, o + k * 2, none⟩ = some (.int .i64 x.1) ∧ w.cell? ⟨b, o + k * 2 + 1, none⟩ = some (.int .i64 x.2) := by
  obtain ⟨p', cap', hv', _, hc⟩ := h
  rw [hv] at hv'
  simp only [Value.slice.injEq] at hv'
  obtain ⟨rfl, rfl, rfl⟩ := hv'
  obtain ⟨b, o, hp, hb, hcc⟩ := hc k x hx
  exact ⟨b, o, hp, hb, hcc 0 _ rfl, hcc 1 _ rfl⟩
theorem rs_len {w : World} {v : Value} {s : List Sp} (h : RsRow w v s) : ∃ p cap, v = .slice p s.length cap := by
  obtain ⟨p, cap, hv, _⟩ := h
  exact ⟨p, cap, hv⟩
def cutS (x y : Sp) : List Sp := if y.2 < x.1 ∨ x.2 < y.1 then [y] else (if y.1 < x.1 then [(y.1, x.1 - 1)] else []) ++ (if x.2 < y.2 then [(x.2 + 1, y.2)] else [])
theorem lessL_eq (x : Sp) : ∀ l : List Sp, lessL x l = l.flatMap (cutS x)
  | [] => rfl
  | y :: l => by rw [lessL, lessL_eq x l, List.flatMap_cons]; rfl
theorem lessL_take {l : List Sp} {k : Nat} {y : Sp} (x : Sp) (h : l[k]? = some y) : lessL x (l.take (k + 1)) = lessL x (l.take k) ++ cutS x y := by
  rw [lessL_eq, lessL_eq, List.take_add_one, h]; simp
theorem cutS_len (x y : Sp) : (cutS x y).length ≤ 2 := by
  unfold cutS; split
  · simp
  · split <;> split <;> simp
theorem lessL_take_len (x : Sp) (l : List Sp) : (lessL x l).length ≤ 2 * l.length := by
  induction l with
  | nil => simp [lessL]
  | cons y l ih => rw [lessL_eq] at ih ⊢; rw [List.flatMap_cons, List.length_append, List.length_cons]; have := cutS_len x y; omega
theorem withoutL_take {a b : List Sp} {k : Nat} {x : Sp} (h : b[k]? = some x) : withoutL a (b.take (k + 1)) = lessL x (withoutL a (b.take k)) := by
  unfold withoutL; rw [List.take_add_one, h, List.foldl_append]; rfl
/-- A number of 34 bits or so, right or not. -/
structure RsB (x : Sp) : Prop where
  f0 : 0 ≤ x.1
  f1 : x.1 ≤ 4294967296
  t0 : -1 ≤ x.2
  t1 : x.2 < 4294967296
theorem SpB.rs {x : Sp} (h : SpB x) : RsB x := ⟨h.f0, by have := h.f1; omega, by have := h.t0; omega, h.t1⟩
theorem cutS_b {x y : Sp} (hx : SpB x) (hy : RsB y) : ∀ z ∈ cutS x y, RsB z := by
  obtain ⟨f0, f1, t0, t1⟩ := hx
  obtain ⟨g0, g1, u0, u1⟩ := hy
  intro z hz
  unfold cutS at hz
  split at hz
  · rw [List.mem_singleton.1 hz]; exact ⟨g0, g1, u0, u1⟩
  · rcases List.mem_append.1 hz with hz | hz
    · split at hz
      · rw [List.mem_singleton.1 hz]; constructor <;> simp only <;> omega
      · cases hz
    · split at hz
      · rw [List.mem_singleton.1 hz]; constructor <;> simp only <;> omega
      · cases hz
theorem lessL_b {x : Sp} {l : List Sp} (hx : SpB x) (hl : ∀ y ∈ l, RsB y) : ∀ z ∈ lessL x l, RsB z := fun z hz => by
  rw [lessL_eq] at hz
  obtain ⟨y, hy, hz⟩ := List.mem_flatMap.1 hz
  exact cutS_b hx (hl y hy) z hz
theorem withoutL_b : ∀ (b a : List Sp), (∀ x ∈ b, SpB x) → (∀ y ∈ a, RsB y) → ∀ z ∈ withoutL a b, RsB z
  | [], a, _, ha => ha
  | x :: b, a, hb, ha => withoutL_b b (lessL x a) (fun y hy => hb y (List.mem_cons_of_mem _ hy)) (lessL_b (hb x (List.mem_cons_self ..)) ha)
end Go.Ab
namespace Go.Proofs.YtgfkcbflnkpogaaGreatDoor
open Go.RowKit Go.Ab
attribute [local go_sem high] wrapI64 wrapK64
theorem infoRSpan : (Tryz.prog.info? 137).map (fun i => (i.zero, i.size, i.bytes)) = some (some (.agg #[.int .i64 0, .int .i64 0]), 2, 16) := by kernel_rfl
abbrev GivesR (f : FuncId) (args : Array Value) (w : World) (L : List Sp) : Prop := Calls Tryz.prog f args w fun e w' => ∃ p c, e = .returned (.slice p L.length c) ∧ Hid (RsRow w' (.slice p L.length c) L) ∧ ∃ x : Ext w, w' = x.w
theorem rs_row {W : World} {base : Nat} {u : Value} {L : List Sp} (h : W.ownsRow base 137 2 u L.length (L.flatMap rsCells)) : RsRow W u L := RowOf.of_owns (cells := rsCells) (k := 2) rsCells_length h
theorem one_rowR (W : World) (x : Sp) (b : Nat) (h : b = W.heap.size) : RsRow (W.alloc (.cells #[.int .i64 x.1, .int .i64 x.2] 137)) (.slice (some ⟨b, 0, none⟩) 1 1) [x] := by
  subst h
  exact RowOf.of_block (cells := rsCells) (k := 2) rsCells_length (l := [x]) (t := 137) (fz := (0, 0)) (by rw [alloc_get, if_pos rfl]; rfl) (Nat.le_refl _)
set_option maxHeartbeats 8000000 in
set_option maxRecDepth 100000 in
theorem turned_any (s : List Sp) (v : Value) (w : World) (hv : SpRow w v s) (hb : ∀ x ∈ s, SpB x) (hl : s.length ≤ 1000000) :
    GivesR 42 #[v] w s := by
  unfold GivesR
  obtain ⟨p, cap, rfl, hle, hc⟩ := hv
  have Hb := Lib.hid hb
  have Hc := Lib.hid hc
  obtain ⟨N, hN⟩ : ∃ N, s.length = N := ⟨_, rfl⟩
  rw [hN] at hle hl ⊢
  have HN := Lib.hid hN
  obtain ⟨i0, hi, hy0, hy1, hy2⟩ := info_parts infoRSpan
  have Hi := Lib.hid hi; have Hy0 := Lib.hid hy0; have Hy1 := Lib.hid hy1; have Hy2 := Lib.hid hy2
  clear hi hy0 hy1 hy2 hN hc hb
  go_enter Tryz.func42, Tryz.ntmps42
  go_wp2_with fail
  go_loopw [3, 8] (fun u i wr => ∃ (k : Nat), k ≤ N ∧ i = .int .i64 (k : Int) ∧ Hid (wr.ownsRow w.heap.size 137 2 u (s.take k).length ((s.take k).flatMap rsCells)) ∧ Up w wr) (fun _ i _ => N - (intOf i).toNat)
  case atStart => exact ⟨0, Nat.zero_le _, rfl, Lib.hid (World.ownsRow_nil _ _ _ _), Up.refl _⟩
  case round =>
    obtain ⟨k, hk, rfl, Hown, hup⟩ := hrel
    haveI : UpI w wr := ⟨hup⟩
    by_cases hlt : k < N
    · have hlt' : (k : Int) < (N : Int) := by omega
      have k0 : (0 : Int) ≤ (k : Int) := by omega
      obtain ⟨x, hx⟩ : ∃ x, s[k]? = some x := ⟨_, List.getElem?_eq_getElem (by rw [HN.out]; exact hlt)⟩
      obtain ⟨b, o, rfl, hbb, hcc⟩ := Hc.out k x hx
      haveI : LtSize b wr := ⟨Nat.lt_of_lt_of_le hbb hup.size⟩
      have c0 := hup.cell_some (hcc 0 _ rfl)
      have c1 := hup.cell_some (hcc 1 _ rfl)
      simp only [Nat.add_zero] at c0
      obtain ⟨xf0, xf1, xt0, xt1⟩ := Hb.out x (List.mem_of_getElem? hx)
      haveI : In64 x.1 := ⟨by omega⟩
      haveI : In64 x.2 := ⟨by omega⟩
      have E := Lib.hid (show s.take (k + 1) = s.take k ++ [x] by rw [List.take_add_one, hx]; simp)
      have hlen : (s.take k).length = k := by rw [List.length_take, HN.out]; omega
      clear hcc hx Hc Hb
      generalize s.take k = O at *
      go_upto_region 5 with fail
      obtain ⟨D, hD⟩ : ∃ D, wr.heap.size = D := ⟨_, rfl⟩
      refine wp_letterS (fun Z => UpI wr Z ∧ Z.cell? ⟨D, 0, none⟩ = some (.int .u32 x.1) ∧ Z.cell? ⟨D, 1, none⟩ = some (.int .u32 x.2)) ?hst ?_
      case hst =>
        subst hD
        exact ⟨inferInstance, by simp [go_sem], by simp [go_sem]⟩
      rw [hD]
      rintro Z ⟨uZ, z0, z1⟩
      haveI := uZ
      haveI : UpI w Z := ⟨hup.trans uZ.up⟩
      haveI : LtSize D Z := ⟨cell_lt' z0⟩
      clear hD c0 c1
      go_wp2_with (first
        | (at_builtin; refine wpList_append_list (cells := rsCells) (k := 2) rsCells_length rs_one (by decide) rfl _ _ 78 rfl w.heap.size 137 i0 (.agg #[.int .i64 0, .int .i64 0]) 16 Tryz.underlying78 Hi.out Hy0.out Hy1.out Hy2.out rfl O _ rfl (owns_up Hown.out (upI : Up wr _)) [x] _ rfl (one_rowR Z x _ rfl) (by rw [hlen]; unfold maxLen; simp; omega) (by rw [hlen]; simp; omega) (by have := (upI : Up w Z).size; simp; omega) ?_; intro v' w1 hown' hgrow))
      have hup3 : Up w w1 := (upI : Up w _).grown hgrow (owns_row Hown.out)
      go_roundw
      case rel => exact ⟨k + 1, by omega, by go_num, by rw [E.out]; exact Lib.hid hown', hup3⟩
      case measure => simp [intOf]; omega
    · obtain rfl : k = N := by omega
      have e0 : s.take k = s := List.take_of_length_le (by rw [HN.out]; exact Nat.le_refl _)
      rw [e0] at Hown
      have RL := Lib.hid (rs_row Hown.out)
      obtain ⟨p2, c2, hu3⟩ := owns_sliceN Hown.out
      rw [HN.out] at hu3
      subst hu3
      go_wp2_with fail
      go_ret
      exact ⟨_, _, rfl, RL, hup.mk⟩
set_option maxHeartbeats 8000000 in
set_option maxRecDepth 100000 in
theorem rright_any (s : List Sp) (v : Value) (w : World) (hv : RsRow w v s) (hb : ∀ x ∈ s, SpB x) (hl : s.length ≤ 1000000000) : Gives Tryz.prog 69 #[v] w (.bool (rightS s)) := by
  obtain ⟨p, cap, rfl⟩ := rs_len hv
  have hle : s.length ≤ cap := by
    obtain ⟨_, _, he, h, _⟩ := hv
    simp only [Value.slice.injEq, true_and] at he
    rw [he.2]; exact h
  have Hc := Lib.hid (fun k x (h : s[k]? = some x) => rs_at hv rfl h)
  obtain ⟨N, hN⟩ : ∃ N, s.length = N := ⟨_, rfl⟩
  rw [hN] at hle hl ⊢
  have HN := Lib.hid hN
  have Hb := Lib.hid hb
  clear hN hb hv
  unfold Gives
  go_enter Tryz.func69, Tryz.ntmps69
  go_wp2_with fail
  go_loopw [3] (fun i wr => ∃ k : Nat, k ≤ N ∧ i = .int .i64 (k : Int) ∧ Hid (rightS s = rF (loAt s k) (s.drop k)) ∧ ∃ x : Ext w, wr = x.w) (fun i _ => N - (intOf i).toNat)
  case atStart => exact ⟨0, Nat.zero_le _, rfl, rfl, (Up.refl w).mk⟩
  case round =>
    obtain ⟨k, hk, rfl, Hk, x0, rfl⟩ := hrel
    by_cases hlt : k < N
    · have hlt' : (k : Int) < (N : Int) := by omega
      have k0 : (0 : Int) ≤ (k : Int) := by omega
      obtain ⟨x, hx⟩ : ∃ x, s[k]? = some x := ⟨_, List.getElem?_eq_getElem (by rw [HN.out]; exact hlt)⟩
      obtain ⟨b, o, rfl, hbw, c0, c1⟩ := Hc.out k x hx
      haveI : LtSize b w := ⟨hbw⟩
      have xb := Hb.out x (List.mem_of_getElem? hx)
      obtain ⟨xf0, xf1, xt0, xt1⟩ := xb
      have Hs := Lib.hid (right_step hx)
      have Hx := Lib.hid hx
      clear hx
      by_cases hgt : x.2 < x.1
      · have E := Lib.hid (show rightS s = false by rw [Hk.out, Hs.out, decide_eq_false (show ¬ x.1 ≤ x.2 by omega)]; simp)
        have hd : decide (x.2 < x.1) = true := decide_eq_true hgt
        go_wp2_with fail
        (refine wp_region_ext (by kernel_rfl) (by kernel_rfl) ?_; (repeat (go_big_quiet_step (fail))); refine wpQuiet_nil ?_; rintro _ ⟨y, rfl⟩)
        go_wp2_with fail
        go_ret
        exact ⟨ret_bool E.out.symm, mkI⟩
      · have hd : decide (x.2 < x.1) = false := decide_eq_false hgt
        rcases Nat.eq_zero_or_pos k with hk0 | hk0
        · have E := Lib.hid (show rightS s = rF (loAt s (k + 1)) (s.drop (k + 1)) by rw [Hk.out, Hs.out, decide_eq_true (show x.1 ≤ x.2 by omega), decide_eq_true (show loAt s k ≤ x.1 by subst hk0; exact xf0)]; simp)
          have hkz : decide (0 < k) = false := decide_eq_false (by omega)
          clear hk0
          go_wp2_with fail
          (refine wp_region_ext (by kernel_rfl) (by kernel_rfl) ?_; (repeat (go_big_quiet_step (fail))); refine wpQuiet_nil ?_; rintro _ ⟨y, rfl⟩)
          go_wp2_with fail
          go_roundw
          case rel => exact ⟨k + 1, by omega, by go_num, E, mkI⟩
          case measure => simp [intOf]; omega
        · obtain ⟨m, hm⟩ : ∃ m : Nat, k = m + 1 := ⟨k - 1, by omega⟩
          have hkp : (0 : Int) < (k : Int) := by omega
          have hkp' : decide (0 < k) = true := decide_eq_true (by omega)
          have hkm : (k : Int) - 1 = (m : Int) := by omega
          have hm0 : (0 : Int) ≤ (m : Int) := by omega
          have hmN : (m : Int) < (N : Int) := by omega
          obtain ⟨y, hy⟩ : ∃ y, s[m]? = some y := ⟨_, List.getElem?_eq_getElem (by rw [HN.out]; omega)⟩
          obtain ⟨b', o', hp', _, d0, d1⟩ := Hc.out m y hy
          simp only [Option.some.injEq, Addr.mk.injEq, and_true] at hp'
          obtain ⟨rfl, rfl⟩ := hp'
          have yb := Hb.out y (List.mem_of_getElem? hy)
          obtain ⟨yf0, yf1, yt0, yt1⟩ := yb
          haveI : In64 (m : Int) := ⟨by omega⟩
          have EL : Hid (loAt s k = y.2 + 2) := by subst hm; exact loAt_succ hy
          haveI : In64 (y.2 + 1) := ⟨by omega⟩
          clear hy hm
          by_cases hc : x.1 < y.2 + 2
          · have E := Lib.hid (show rightS s = false by rw [Hk.out, Hs.out, EL.out, decide_eq_false (show ¬ y.2 + 2 ≤ x.1 by omega)]; simp)
            have hd2 : decide (x.1 ≤ y.2 + 1) = true := decide_eq_true (by omega)
            go_wp2_with fail
            (refine wp_region_ext (by kernel_rfl) (by kernel_rfl) ?_; (repeat (go_big_quiet_step (fail))); refine wpQuiet_nil ?_; rintro _ ⟨y, rfl⟩)
            go_wp2_with fail
            go_ret
            exact ⟨ret_bool E.out.symm, mkI⟩
          · have E := Lib.hid (show rightS s = rF (loAt s (k + 1)) (s.drop (k + 1)) by rw [Hk.out, Hs.out, EL.out, decide_eq_true (show x.1 ≤ x.2 by omega), decide_eq_true (show y.2 + 2 ≤ x.1 by omega)]; simp)
            have hd2 : decide (x.1 ≤ y.2 + 1) = false := decide_eq_false (by omega)
            go_wp2_with fail
            (refine wp_region_ext (by kernel_rfl) (by kernel_rfl) ?_; (repeat (go_big_quiet_step (fail))); refine wpQuiet_nil ?_; rintro _ ⟨y, rfl⟩)
            go_wp2_with fail
            go_roundw
            case rel => exact ⟨k + 1, by omega, by go_num, E, mkI⟩
            case measure => simp [intOf]; omega
    · obtain rfl : k = N := by omega
      have E := Lib.hid (show rightS s = true by rw [Hk.out]; exact right_end (by rw [HN.out]; exact Nat.le_refl _))
      go_wp2_with fail
      go_ret
      exact ⟨ret_bool E.out.symm, mkI⟩
theorem wrongLs_two (a b : List Sp) : wrongLs [a, b] = if 4096 < a.length ∨ 4096 < b.length then 5 else if rightS a = true ∧ rightS b = true then 0 else 2 := by
  unfold wrongLs; simp
set_option maxHeartbeats 8000000 in
set_option maxRecDepth 100000 in
theorem rwrong_any (a b : List Sp) (va vb : Value) (w : World) (ra : RsRow w va a) (rb : RsRow w vb b) (ba : ∀ x ∈ a, SpB x) (bb : ∀ x ∈ b, SpB x) (la : a.length ≤ 1000000000) (lb : b.length ≤ 1000000000) :
    Gives Tryz.prog 43 #[va, vb] w (.int .i64 (wrongLs [a, b])) := by
  have ca := fun (W : World) (u : UpI w W) => rright_any a va W (ra.up u.up) ba la
  have cb := fun (W : World) (u : UpI w W) => rright_any b vb W (rb.up u.up) bb lb
  obtain ⟨pa, capa, rfl⟩ := rs_len ra
  obtain ⟨pb, capb, rfl⟩ := rs_len rb
  have E := Lib.hid (wrongLs_two a b)
  clear ra rb ba bb
  generalize wrongLs [a, b] = R at *
  generalize a.length = N at *
  generalize b.length = M at *
  generalize rightS a = p at *
  generalize rightS b = q at *
  unfold Gives
  go_enter Tryz.func43, Tryz.ntmps43
  by_cases h1 : 4096 < N
  · have h1' : decide ((4096 : Int) < N) = true := decide_eq_true (by omega)
    have E2 := Lib.hid (E.out.trans (if_pos (Or.inl h1)))
    go_wp2_with fail
    go_ret
    exact ⟨by rw [E2.out]; rfl, mkI⟩
  · have h1' : decide ((4096 : Int) < N) = false := decide_eq_false (by omega)
    by_cases h2 : 4096 < M
    · have h2' : decide ((4096 : Int) < M) = true := decide_eq_true (by omega)
      have E2 := Lib.hid (E.out.trans (if_pos (Or.inr h2)))
      go_wp2_with fail
      go_ret
      exact ⟨by rw [E2.out]; rfl, mkI⟩
    · have h2' : decide ((4096 : Int) < M) = false := decide_eq_false (by omega)
      have E2 := Lib.hid (E.out.trans (if_neg (by omega)))
      cases p <;> cases q
      all_goals
        (go_wp2_with (first
          | (go_at_call 69; (with_reducible refine (ca _ inferInstance).mono ?_); clear ca; rintro e w' ⟨rfl, z1, rfl⟩)
          | (go_at_call 69; (with_reducible refine (cb _ inferInstance).mono ?_); clear cb; rintro e w' ⟨rfl, z2, rfl⟩)))
      all_goals
        (go_ret; exact ⟨by rw [E2.out]; rfl, mkI⟩)
set_option maxHeartbeats 16000000 in
set_option maxRecDepth 100000 in
theorem rless_any (l : List Sp) (x : Sp) (v : Value) (w : World) (hv : RsRow w v l) (hx : SpB x) (hb : ∀ y ∈ l, RsB y) (hl : l.length ≤ 1000000) :
    GivesR 83 #[v, .agg #[.int .i64 x.1, .int .i64 x.2]] w (lessL x l) := by
  unfold GivesR
  obtain ⟨p, cap, rfl, hle, hc⟩ := hv
  have Hb := Lib.hid hb
  have Hc := Lib.hid hc
  obtain ⟨N, hN⟩ : ∃ N, l.length = N := ⟨_, rfl⟩
  rw [hN] at hle hl ⊢
  have HN := Lib.hid hN
  obtain ⟨i0, hi, hy0, hy1, hy2⟩ := info_parts infoRSpan
  have Hi := Lib.hid hi; have Hy0 := Lib.hid hy0; have Hy1 := Lib.hid hy1; have Hy2 := Lib.hid hy2
  obtain ⟨xf0, xf1, xt0, xt1⟩ := hx
  haveI : In64 (x.1 - 1) := ⟨by omega⟩
  haveI : In64 (x.2 + 1) := ⟨by omega⟩
  clear hi hy0 hy1 hy2 hN hc hb
  go_enter Tryz.func83, Tryz.ntmps83
  go_upto_region 1 with fail
  obtain ⟨A, hA⟩ : ∃ A, w.heap.size = A := ⟨_, rfl⟩
  refine wp_letterS (fun Z => UpI w Z ∧ Z.cell? ⟨A, 0, none⟩ = some (.int .i64 x.1) ∧ Z.cell? ⟨A, 1, none⟩ = some (.int .i64 x.2)) ?hst ?_
  case hst =>
    subst hA
    exact ⟨inferInstance, by simp [go_sem], by simp [go_sem]⟩
  rw [hA]
  rintro Z ⟨uZ, z0, z1⟩
  haveI := uZ
  haveI : LtSize A Z := ⟨cell_lt' z0⟩
  clear hA
  go_wp2_with fail
  go_loopw [5, 6] (fun u i wr => ∃ (k : Nat) (M : List Sp), k ≤ N ∧ i = .int .i64 (k : Int) ∧ Hid (M = lessL x (l.take k)) ∧ M.length ≤ 2 * k ∧ Hid (wr.ownsRow Z.heap.size 137 2 u M.length (M.flatMap rsCells)) ∧ Up Z wr) (fun _ i _ => N - (intOf i).toNat)
  case atStart => exact ⟨0, [], Nat.zero_le _, rfl, Lib.hid rfl, Nat.zero_le _, Lib.hid (World.ownsRow_nil _ _ _ _), Up.refl _⟩
  case round =>
    obtain ⟨k, M, hk, rfl, HM, hMl, Hown, hup⟩ := hrel
    haveI : UpI Z wr := ⟨hup⟩
    haveI : UpI w wr := ⟨uZ.up.trans hup⟩
    by_cases hlt : k < N
    · have hlt' : (k : Int) < (N : Int) := by omega
      have k0 : (0 : Int) ≤ (k : Int) := by omega
      obtain ⟨y, hy⟩ : ∃ y, l[k]? = some y := ⟨_, List.getElem?_eq_getElem (by rw [HN.out]; exact hlt)⟩
      obtain ⟨b, o, rfl, hbb, hcc⟩ := Hc.out k y hy
      haveI : LtSize b wr := ⟨Nat.lt_of_lt_of_le hbb (upI : Up w wr).size⟩
      have c0 := (upI : Up w wr).cell_some (hcc 0 _ rfl)
      have c1 := (upI : Up w wr).cell_some (hcc 1 _ rfl)
      simp only [Nat.add_zero] at c0
      have q0 := hup.cell_some z0
      have q1 := hup.cell_some z1
      haveI : LtSize A wr := ⟨cell_lt' q0⟩
      obtain ⟨yf0, yf1, yt0, yt1⟩ := Hb.out y (List.mem_of_getElem? hy)
      have HMs := Lib.hid (show lessL x (l.take (k + 1)) = M ++ cutS x y by rw [lessL_take x hy, HM.out])
      have QZ0 := Lib.hid z0; have QZ1 := Lib.hid z1
      clear hcc hy Hc Hb z0 z1
      go_upto_region 6 with fail
      obtain ⟨D, hD⟩ : ∃ D, wr.heap.size = D := ⟨_, rfl⟩
      refine wp_letterS (fun Y => UpI wr Y ∧ Y.cell? ⟨D, 0, none⟩ = some (.int .i64 y.1) ∧ Y.cell? ⟨D, 1, none⟩ = some (.int .i64 y.2)) ?hst ?_
      case hst =>
        subst hD
        exact ⟨inferInstance, by simp [go_sem], by simp [go_sem]⟩
      rw [hD]
      rintro Y ⟨uY, z0, z1⟩
      haveI := uY
      haveI : UpI Z Y := ⟨hup.trans uY.up⟩
      haveI : UpI w Y := ⟨(upI : Up w wr).trans uY.up⟩
      haveI : LtSize D Y := ⟨cell_lt' z0⟩
      have q0' := uY.up.cell_some q0
      have q1' := uY.up.cell_some q1
      haveI : LtSize A Y := ⟨cell_lt' q0'⟩
      have hDw : wr.heap.size ≤ D := Nat.le_of_eq hD
      have HlT := Lib.hid (fun k hk => Nat.lt_of_lt_of_le (owns_lt Hown.out k hk) hDw)
      clear hD c0 c1 q0 q1 hDw
      by_cases h1 : y.2 < x.1 ∨ x.2 < y.1
      · have E := Lib.hid (show lessL x (l.take (k + 1)) = M ++ [y] by rw [HMs.out]; unfold cutS; rw [if_pos h1])
        by_cases h2 : y.2 < x.1
        · have d1 : decide (y.2 < x.1) = true := decide_eq_true h2
          clear HM HMs h1
          go_wp2_with (first
            | (at_builtin; refine wpList_append_list (cells := rsCells) (k := 2) rsCells_length rs_one (by decide) rfl _ _ 78 rfl Z.heap.size 137 i0 (.agg #[.int .i64 0, .int .i64 0]) 16 Tryz.underlying78 Hi.out Hy0.out Hy1.out Hy2.out rfl M _ rfl (owns_up Hown.out (upI : Up wr _)) [y] _ rfl (one_rowR _ y _ (by first | rfl | simp)) (by unfold maxLen; simp; omega) (by simp; omega) (upI : Up Z _).size ?_; intro v1 w1 hown1 hgrow1))
          have hup1 : Up Z w1 := (upI : Up Z _).grown hgrow1 (owns_row Hown.out)
          haveI : UpI Z w1 := ⟨hup1⟩
          haveI : UpI w w1 := ⟨uZ.up.trans hup1⟩
          have HO1 := Lib.hid hown1
          clear hown1 hgrow1
          go_wp2_with fail
          go_roundw
          case rel => exact ⟨k + 1, M ++ [y], by omega, by go_num, Lib.hid E.out.symm, by simp; omega, HO1, hup1⟩
          case measure => simp [intOf]; omega
        · have d1 : decide (y.2 < x.1) = false := decide_eq_false h2
          have d2 : decide (x.2 < y.1) = true := decide_eq_true (by omega)
          clear HM HMs h1
          go_wp2_with (first
            | (at_builtin; refine wpList_append_list (cells := rsCells) (k := 2) rsCells_length rs_one (by decide) rfl _ _ 78 rfl Z.heap.size 137 i0 (.agg #[.int .i64 0, .int .i64 0]) 16 Tryz.underlying78 Hi.out Hy0.out Hy1.out Hy2.out rfl M _ rfl (owns_up Hown.out (upI : Up wr _)) [y] _ rfl (one_rowR _ y _ (by first | rfl | simp)) (by unfold maxLen; simp; omega) (by simp; omega) (upI : Up Z _).size ?_; intro v1 w1 hown1 hgrow1))
          have hup1 : Up Z w1 := (upI : Up Z _).grown hgrow1 (owns_row Hown.out)
          haveI : UpI Z w1 := ⟨hup1⟩
          haveI : UpI w w1 := ⟨uZ.up.trans hup1⟩
          have HO1 := Lib.hid hown1
          clear hown1 hgrow1
          go_wp2_with fail
          go_roundw
          case rel => exact ⟨k + 1, M ++ [y], by omega, by go_num, Lib.hid E.out.symm, by simp; omega, HO1, hup1⟩
          case measure => simp [intOf]; omega
      · have e1 : cutS x y = (if y.1 < x.1 then [(y.1, x.1 - 1)] else []) ++ (if x.2 < y.2 then [(x.2 + 1, y.2)] else []) := by unfold cutS; rw [if_neg h1]
        have d1 : decide (y.2 < x.1) = false := decide_eq_false (by omega)
        have d2 : decide (x.2 < y.1) = false := decide_eq_false (by omega)
        by_cases h2 : y.1 < x.1
        · have d3 : decide (y.1 < x.1) = true := decide_eq_true h2
          by_cases h3 : x.2 < y.2
          · have d4 : decide (x.2 < y.2) = true := decide_eq_true h3
            have E := Lib.hid (show lessL x (l.take (k + 1)) = M ++ [(y.1, x.1 - 1)] ++ [(x.2 + 1, y.2)] by rw [HMs.out, e1, if_pos h2, if_pos h3]; simp)
            clear HM HMs h1 e1
            go_upto_region 10 with (first
              | (at_builtin; refine wpList_append_list (cells := rsCells) (k := 2) rsCells_length rs_one (by decide) rfl _ _ 78 rfl Z.heap.size 137 i0 (.agg #[.int .i64 0, .int .i64 0]) 16 Tryz.underlying78 Hi.out Hy0.out Hy1.out Hy2.out rfl M _ rfl (owns_up Hown.out (upI : Up wr _)) [(y.1, x.1 - 1)] _ rfl (one_rowR _ (y.1, x.1 - 1) _ (by first | rfl | simp)) (by unfold maxLen; simp; omega) (by simp; omega) (upI : Up Z _).size ?_; intro v1 w1 hown1 hgrow1))
            have hup1 : Up Z w1 := (upI : Up Z _).grown hgrow1 (owns_row Hown.out)
            haveI : UpI Z w1 := ⟨hup1⟩
            haveI : UpI w w1 := ⟨uZ.up.trans hup1⟩
            have HO1 := Lib.hid hown1
            have z0' := grown_cell hgrow1 ((upI : Up Y _).cell_some' z0) HlT.out
            have z1' := grown_cell hgrow1 ((upI : Up Y _).cell_some' z1) HlT.out
            have q0'' := (upI : Up Z w1).cell_some QZ0.out
            have q1'' := (upI : Up Z w1).cell_some QZ1.out
            haveI : LtSize A w1 := ⟨cell_lt' q0''⟩
            haveI : LtSize D w1 := ⟨cell_lt' z0'⟩
            clear hown1 hgrow1
            go_wp2_with (first
              | (at_builtin; refine wpList_append_list (cells := rsCells) (k := 2) rsCells_length rs_one (by decide) rfl _ _ 78 rfl Z.heap.size 137 i0 (.agg #[.int .i64 0, .int .i64 0]) 16 Tryz.underlying78 Hi.out Hy0.out Hy1.out Hy2.out rfl (M ++ [(y.1, x.1 - 1)]) _ rfl (owns_up HO1.out (upI : Up w1 _)) [(x.2 + 1, y.2)] _ rfl (one_rowR _ (x.2 + 1, y.2) _ (by first | rfl | simp)) (by unfold maxLen; simp; omega) (by simp; omega) (upI : Up Z _).size ?_; intro v2 w2 hown2 hgrow2))
            have hup2 : Up Z w2 := (upI : Up Z _).grown hgrow2 (owns_row HO1.out)
            haveI : UpI Z w2 := ⟨hup2⟩
            haveI : UpI w w2 := ⟨uZ.up.trans hup2⟩
            have HO2 := Lib.hid hown2
            clear hown2 hgrow2
            go_wp2_with fail
            go_roundw
            case rel => exact ⟨k + 1, M ++ [(y.1, x.1 - 1)] ++ [(x.2 + 1, y.2)], by omega, by go_num, Lib.hid E.out.symm, by simp; omega, HO2, hup2⟩
            case measure => simp [intOf]; omega
          · have d4 : decide (x.2 < y.2) = false := decide_eq_false h3
            have E := Lib.hid (show lessL x (l.take (k + 1)) = M ++ [(y.1, x.1 - 1)] by rw [HMs.out, e1, if_pos h2, if_neg h3]; simp)
            clear HM HMs h1 e1
            go_upto_region 10 with (first
              | (at_builtin; refine wpList_append_list (cells := rsCells) (k := 2) rsCells_length rs_one (by decide) rfl _ _ 78 rfl Z.heap.size 137 i0 (.agg #[.int .i64 0, .int .i64 0]) 16 Tryz.underlying78 Hi.out Hy0.out Hy1.out Hy2.out rfl M _ rfl (owns_up Hown.out (upI : Up wr _)) [(y.1, x.1 - 1)] _ rfl (one_rowR _ (y.1, x.1 - 1) _ (by first | rfl | simp)) (by unfold maxLen; simp; omega) (by simp; omega) (upI : Up Z _).size ?_; intro v1 w1 hown1 hgrow1))
            have hup1 : Up Z w1 := (upI : Up Z _).grown hgrow1 (owns_row Hown.out)
            haveI : UpI Z w1 := ⟨hup1⟩
            haveI : UpI w w1 := ⟨uZ.up.trans hup1⟩
            have HO1 := Lib.hid hown1
            have z0' := grown_cell hgrow1 ((upI : Up Y _).cell_some' z0) HlT.out
            have z1' := grown_cell hgrow1 ((upI : Up Y _).cell_some' z1) HlT.out
            have q0'' := (upI : Up Z w1).cell_some QZ0.out
            have q1'' := (upI : Up Z w1).cell_some QZ1.out
            haveI : LtSize A w1 := ⟨cell_lt' q0''⟩
            haveI : LtSize D w1 := ⟨cell_lt' z0'⟩
            clear hown1 hgrow1
            go_wp2_with fail
            go_roundw
            case rel => exact ⟨k + 1, M ++ [(y.1, x.1 - 1)], by omega, by go_num, Lib.hid E.out.symm, by simp; omega, HO1, hup1⟩
            case measure => simp [intOf]; omega
        · have d3 : decide (y.1 < x.1) = false := decide_eq_false h2
          by_cases h3 : x.2 < y.2
          · have d4 : decide (x.2 < y.2) = true := decide_eq_true h3
            have E := Lib.hid (show lessL x (l.take (k + 1)) = M ++ [(x.2 + 1, y.2)] by rw [HMs.out, e1, if_neg h2, if_pos h3]; simp)
            clear HM HMs h1 e1
            go_wp2_with (first
              | (at_builtin; refine wpList_append_list (cells := rsCells) (k := 2) rsCells_length rs_one (by decide) rfl _ _ 78 rfl Z.heap.size 137 i0 (.agg #[.int .i64 0, .int .i64 0]) 16 Tryz.underlying78 Hi.out Hy0.out Hy1.out Hy2.out rfl M _ rfl (owns_up Hown.out (upI : Up wr _)) [(x.2 + 1, y.2)] _ rfl (one_rowR _ (x.2 + 1, y.2) _ (by first | rfl | simp)) (by unfold maxLen; simp; omega) (by simp; omega) (upI : Up Z _).size ?_; intro v1 w1 hown1 hgrow1))
            have hup1 : Up Z w1 := (upI : Up Z _).grown hgrow1 (owns_row Hown.out)
            haveI : UpI Z w1 := ⟨hup1⟩
            haveI : UpI w w1 := ⟨uZ.up.trans hup1⟩
            have HO1 := Lib.hid hown1
            clear hown1 hgrow1
            go_wp2_with fail
            go_roundw
            case rel => exact ⟨k + 1, M ++ [(x.2 + 1, y.2)], by omega, by go_num, Lib.hid E.out.symm, by simp; omega, HO1, hup1⟩
            case measure => simp [intOf]; omega
          · have d4 : decide (x.2 < y.2) = false := decide_eq_false h3
            have E := Lib.hid (show lessL x (l.take (k + 1)) = M by rw [HMs.out, e1, if_neg h2, if_neg h3]; simp)
            clear HM HMs h1 e1
            go_wp2_with fail
            go_roundw
            case rel => exact ⟨k + 1, M, by omega, by go_num, Lib.hid E.out.symm, by omega, Lib.hid (owns_up Hown.out (upI : Up wr _)), upI⟩
            case measure => simp [intOf]; omega
    · obtain rfl : k = N := by omega
      have e0 : l.take k = l := List.take_of_length_le (by rw [HN.out]; exact Nat.le_refl _)
      rw [e0] at HM
      have hm := HM.out
      subst hm
      have RL := Lib.hid (rs_row Hown.out)
      obtain ⟨p2, c2, hu3⟩ := owns_sliceN Hown.out
      subst hu3
      go_wp2_with fail
      go_ret
      exact ⟨_, _, rfl, RL, (upI : Up w wr).mk⟩
set_option maxHeartbeats 16000000 in
set_option maxRecDepth 100000 in
theorem rwithout_any (a b : List Sp) (va vb : Value) (w : World) (ra : RsRow w va a) (rb : RsRow w vb b) (ha : rF 0 a = true) (ba : ∀ x ∈ a, SpB x) (bb : ∀ x ∈ b, SpB x) (hb : ∀ x ∈ b, x.1 ≤ x.2) (la : a.length ≤ 10000) (lb : b.length ≤ 10000) :
    GivesR 47 #[va, vb] w (withoutL a b) := by
  unfold GivesR
  have RA := Lib.hid ra
  obtain ⟨pa, capa, rfl⟩ := rs_len ra
  obtain ⟨p, cap, rfl, hle, hc⟩ := rb
  have Hc := Lib.hid hc
  have Hbb := Lib.hid bb
  obtain ⟨N, hN⟩ : ∃ N, b.length = N := ⟨_, rfl⟩
  obtain ⟨m, hm⟩ : ∃ m, a.length = m := ⟨_, rfl⟩
  rw [hN] at hle lb ⊢
  rw [hm] at la RA ⊢
  have HN := Lib.hid hN
  have Hm := Lib.hid hm
  obtain ⟨i0, hi, hy0, hy1, hy2⟩ := info_parts infoRSpan
  have Hi := Lib.hid hi; have Hy0 := Lib.hid hy0; have Hy1 := Lib.hid hy1; have Hy2 := Lib.hid hy2
  have hst := fun (k : Nat) => without_len (b.take k) a ha (fun x hx => hb x (List.mem_of_mem_take hx))
  have hsb := fun (k : Nat) => withoutL_b (b.take k) a (fun x hx => bb x (List.mem_of_mem_take hx)) (fun y hy => (ba y hy).rs)
  have hlen : ∀ k, k ≤ N → (withoutL a (b.take k)).length ≤ 20000 := fun k hk => by have := hst k; rw [List.length_take, hN, hm] at this; omega
  have hls := fun (k : Nat) (hk : k ≤ N) (x : Sp) (hx : SpB x) (v : Value) (W : World) (h : RsRow W v (withoutL a (b.take k))) => rless_any (withoutL a (b.take k)) x v W h hx (hsb k) (by have := hlen k hk; omega)
  have Hls := Lib.hid hls
  clear hi hy0 hy1 hy2 hN hm hc bb hst hsb hlen hls ra
  go_enter Tryz.func47, Tryz.ntmps47
  go_upto_region 2 with (first
    | (at_builtin; refine wpList_append_list (cells := rsCells) (k := 2) rsCells_length rs_one (by decide) rfl _ _ 78 rfl w.heap.size 137 i0 (.agg #[.int .i64 0, .int .i64 0]) 16 Tryz.underlying78 Hi.out Hy0.out Hy1.out Hy2.out rfl [] _ rfl (World.ownsRow_made w #[] 0 (Nat.le_refl _) (by decide) (by simp)) a _ rfl (RA.out.up upI) (by rw [Hm.out]; unfold maxLen; simp; omega) (by rw [Hm.out]; simp; omega) (upI : Up w _).size ?_; intro v1 w1 hown1 hgrow1))
  have hup1 : Up w w1 := (upI : Up w _).grown hgrow1 (fun k hk => owns_row (World.ownsRow_made (e := 137) (size := 2) w #[] 0 (Nat.le_refl _) (by decide) (by simp)) k hk)
  haveI : UpI w w1 := ⟨hup1⟩
  rw [List.nil_append] at hown1
  have R1 := Lib.hid (rs_row hown1)
  obtain ⟨p1, c1, hv1⟩ := owns_sliceN hown1
  subst hv1
  clear hown1 hgrow1
  go_wp2_with fail
  go_loopw [5, 6] (fun u i wr => ∃ (k : Nat), k ≤ N ∧ i = .int .i64 (k : Int) ∧ Hid (RsRow wr u (withoutL a (b.take k))) ∧ Up w wr) (fun _ i _ => N - (intOf i).toNat)
  case atStart => exact ⟨0, Nat.zero_le _, rfl, R1, hup1⟩
  case round =>
    clear R1
    obtain ⟨k, hk, rfl, R, hup⟩ := hrel
    haveI : UpI w wr := ⟨hup⟩
    by_cases hlt : k < N
    · have hlt' : (k : Int) < (N : Int) := by omega
      have k0 : (0 : Int) ≤ (k : Int) := by omega
      obtain ⟨x, hx⟩ : ∃ x, b[k]? = some x := ⟨_, List.getElem?_eq_getElem (by rw [HN.out]; exact hlt)⟩
      obtain ⟨bb, o, rfl, hbb, hcc⟩ := Hc.out k x hx
      haveI : LtSize bb wr := ⟨Nat.lt_of_lt_of_le hbb hup.size⟩
      have d0 := hup.cell_some (hcc 0 _ rfl)
      have d1 := hup.cell_some (hcc 1 _ rfl)
      simp only [Nat.add_zero] at d0
      have hl := fun (W : World) => Hls.out k hk x (Hbb.out x (List.mem_of_getElem? hx)) u5 W
      rw [← withoutL_take hx] at hl
      clear hcc hx Hc Hbb Hls
      go_wp2_with (go_at_call 83; (with_reducible refine Calls.mono (hl _ (R.out.up upI)) ?_); clear hl; rintro e w' ⟨p2, c2, rfl, R2, x2, rfl⟩)
      go_roundw
      case rel => exact ⟨k + 1, by omega, by go_num, R2, upI⟩
      case measure => simp [intOf]; omega
    · obtain rfl : k = N := by omega
      have e0 : b.take k = b := List.take_of_length_le (by rw [HN.out]; exact Nat.le_refl _)
      rw [e0] at R
      obtain ⟨p2, c2, hu⟩ := rs_len R.out
      subst hu
      go_wp2_with fail
      go_ret
      exact ⟨_, _, rfl, R, hup.mk⟩
theorem allS_b : ∀ x ∈ allS, SpB x := fun x hx => by rw [List.mem_singleton.1 hx]; constructor <;> decide
theorem othersL_b {s : List Sp} (hs : ∀ x ∈ s, x.1 ≤ x.2) : ∀ x ∈ othersL s, SpB x := rF_bd (rF_others hs) (fun n h => by rw [hasS_others, Bool.and_eq_true] at h; exact (inU_iff n).1 h.1)
set_option maxHeartbeats 16000000 in
set_option maxRecDepth 100000 in
theorem rothers_any (s : List Sp) (v : Value) (w : World) (rs : RsRow w v s) (bs : ∀ x ∈ s, SpB x) (hs : ∀ x ∈ s, x.1 ≤ x.2) (ls : s.length ≤ 10000) :
    GivesR 73 #[v] w (othersL s) := by
  have h := fun (W : World) (u : UpI w W) => rwithout_any allS s (.slice (some ⟨W.heap.size, 0, none⟩) 1 1) v (W.alloc (.cells #[.int .i64 0, .int .i64 4294967295] 137)) (one_rowR W (0, 4294967295) _ rfl) (rs.up ((u.up).alloc _)) (by decide) allS_b bs hs (by decide) ls
  unfold GivesR at h ⊢
  clear rs bs hs ls
  go_enter Tryz.func73, Tryz.ntmps73
  go_wp2_with (go_at_call 47; (with_reducible refine Calls.mono (h _ inferInstance) ?_); clear h; rintro e w' ⟨p2, c2, rfl, R2, x2, rfl⟩)
  go_ret
  exact ⟨_, _, rfl, R2, mkI⟩
set_option maxHeartbeats 16000000 in
set_option maxRecDepth 100000 in
theorem rcommon_any (a b : List Sp) (va vb : Value) (w : World) (ra : RsRow w va a) (rb : RsRow w vb b) (ha : rF 0 a = true) (ba : ∀ x ∈ a, SpB x) (bb : ∀ x ∈ b, SpB x) (hb : ∀ x ∈ b, x.1 ≤ x.2) (la : a.length ≤ 9000) (lb : b.length ≤ 9000) :
    GivesR 46 #[va, vb] w (commonL a b) := by
  have h1 := rothers_any b vb w rb bb hb (by omega)
  have h2 := fun (v : Value) (W : World) (u : UpI w W) (h : RsRow W v (othersL b)) => rwithout_any a (othersL b) va v W (ra.up u.up) h ha ba (othersL_b hb) (rF_le (rF_others hb)) (by omega) (by have := others_len hb; omega)
  unfold GivesR at h1 h2 ⊢
  clear ra rb ba bb hb ha la lb
  unfold commonL
  go_enter Tryz.func46, Tryz.ntmps46
  go_wp2_with (first
    | (go_at_call 73; refine Calls.mono h1 ?_; clear h1; rintro e w' ⟨p1, c1, rfl, R1, x1, rfl⟩)
    | (go_at_call 47; (with_reducible refine Calls.mono (h2 _ x1.w inferInstance R1.out) ?_); clear h2; rintro e w' ⟨p2, c2, rfl, R2, x2, rfl⟩))
  go_ret
  exact ⟨_, _, rfl, R2, mkI⟩
set_option maxHeartbeats 16000000 in
set_option maxRecDepth 100000 in
theorem runion_any (a b : List Sp) (va vb : Value) (w : World) (ra : RsRow w va a) (rb : RsRow w vb b) (ba : ∀ x ∈ a, SpB x) (ha : ∀ x ∈ a, x.1 ≤ x.2) (bb : ∀ x ∈ b, SpB x) (hb : ∀ x ∈ b, x.1 ≤ x.2) (la : a.length ≤ 4500) (lb : b.length ≤ 4500) :
    GivesR 45 #[va, vb] w (unionL a b) := by
  have hab := app_all ba bb
  have hle := app_all ha hb
  have h1 := fun (v : Value) (W : World) (h : RsRow W v (a ++ b)) => rothers_any (a ++ b) v W h hab hle (by rw [List.length_append]; omega)
  have h2 := fun (v : Value) (W : World) (h : RsRow W v (othersL (a ++ b))) => rothers_any (othersL (a ++ b)) v W h (othersL_b hle) (rF_le (rF_others hle)) (by have := others_len hle; rw [List.length_append] at this; omega)
  have RA := Lib.hid ra
  have RB := Lib.hid rb
  obtain ⟨pa, capa, hva⟩ := rs_len ra
  obtain ⟨pb, capb, hvb⟩ := rs_len rb
  subst hva hvb
  obtain ⟨i0, hi, hy0, hy1, hy2⟩ := info_parts infoRSpan
  have Hi := Lib.hid hi; have Hy0 := Lib.hid hy0; have Hy1 := Lib.hid hy1; have Hy2 := Lib.hid hy2
  unfold GivesR at h1 h2 ⊢
  clear ra rb ba bb hb ha hab hle hi hy0 hy1 hy2
  unfold unionL ofL
  go_enter Tryz.func45, Tryz.ntmps45
  go_wp2_with (at_builtin; refine wpList_append_list (cells := rsCells) (k := 2) rsCells_length rs_one (by decide) rfl _ _ 78 rfl w.heap.size 137 i0 (.agg #[.int .i64 0, .int .i64 0]) 16 Tryz.underlying78 Hi.out Hy0.out Hy1.out Hy2.out rfl [] _ rfl (World.ownsRow_made w #[] 0 (Nat.le_refl _) (by decide) (by simp)) a _ rfl (RA.out.up upI) (by unfold maxLen; simp; omega) (by simp; omega) (upI : Up w _).size ?_)
  intro v1 w1 hown1 hgrow1
  have hup1 : Up w w1 := (upI : Up w _).grown hgrow1 (fun k hk => owns_row (World.ownsRow_made (e := 137) (size := 2) w #[] 0 (Nat.le_refl _) (by decide) (by simp)) k hk)
  haveI : UpI w w1 := ⟨hup1⟩
  (try rw [List.nil_append] at hown1)
  have HO1 := Lib.hid hown1
  clear hown1 hgrow1
  go_wp2_with (at_builtin; refine wpList_append_list (cells := rsCells) (k := 2) rsCells_length rs_one (by decide) rfl _ _ 78 rfl w.heap.size 137 i0 (.agg #[.int .i64 0, .int .i64 0]) 16 Tryz.underlying78 Hi.out Hy0.out Hy1.out Hy2.out rfl a _ rfl HO1.out b _ rfl (RB.out.up upI) (by unfold maxLen; omega) (by omega) (upI : Up w _).size ?_)
  intro v2 w2 hown2 hgrow2
  have hup2 : Up w w2 := (upI : Up w _).grown hgrow2 (owns_row HO1.out)
  haveI : UpI w w2 := ⟨hup2⟩
  have HO2 := Lib.hid (rs_row (L := a ++ b) (by rw [List.length_append, List.flatMap_append]; exact hown2))
  clear hown2 hgrow2 HO1
  go_wp2_with (first
    | (go_at_call 73; (with_reducible refine Calls.mono (h1 _ _ HO2.out) ?_); clear h1; rintro e w' ⟨p1, c1, rfl, R1, x1, rfl⟩)
    | (go_at_call 73; (with_reducible refine Calls.mono (h2 _ x1.w R1.out) ?_); clear h2; rintro e w' ⟨p2, c2, rfl, R2, x2, rfl⟩))
  go_ret
  exact ⟨_, _, rfl, R2, mkI⟩
end Go.Proofs.YtgfkcbflnkpogaaGreatDoor
