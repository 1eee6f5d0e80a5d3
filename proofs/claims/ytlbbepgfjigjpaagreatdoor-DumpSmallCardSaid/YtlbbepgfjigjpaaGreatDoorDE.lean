/- Package dump: is a dump right; the texts of a dump. Package dump: texts read as a dump. -/
import Derived.Test.YtlbbepgfjigjpaaGreatDoorDD
import Derived.Test.YtlbbepgfjigjpaaGreatDoorRow
import Derived.Test.YtlbbepgfjigjpaaGreatDoorDiff
namespace Go.Ab
open Go.RowKit Go.Proofs.YtlbbepgfjigjpaaGreatDoor
def LnRow (w : World) (v : Value) (l : List Ln) : Prop := RowOf Ln.cells 11 w v l
def strCells (l : List (List UInt8)) : List Value := l.map fun x => .string ⟨x.toArray⟩
theorem ext_right_false {l : List Ln} {k : Nat} {x : Ln} (hx : l[k]? = some x) (h : x.right = false) : okAt l k = false := by
  unfold okAt; rw [hx]; simp [h]
end Go.Ab
namespace Go.Proofs.YtlbbepgfjigjpaaGreatDoor
open Go.RowKit Go.Ab
set_option maxHeartbeats 16000000 in
set_option maxRecDepth 100000 in
theorem dordered_any (l : List Ln) (v : Value) (w : World) (hv : LnRow w v l) (hb : ∀ x ∈ l, LnB x) (hl : l.length ≤ 1000000000) : Gives Tryz.prog 21 #[v] w (.bool (orderedL l)) := by
  obtain ⟨p, cap, rfl, hle, hc⟩ := hv
  obtain ⟨N, hN⟩ : ∃ N, l.length = N := ⟨_, rfl⟩
  rw [hN] at hle hl ⊢
  have HN := Lib.hid hN
  have Hc := Lib.hid hc
  have Hb := Lib.hid hb
  clear hN hc hb
  unfold Gives
  go_enter Tryz.func21, Tryz.ntmps21
  go_wp2_with fail
  go_loopw [7] (fun i wr => ∃ k : Nat, k ≤ N ∧ i = .int .i64 (k : Int) ∧ Hid (∀ j, j < k → okAt l j = true) ∧ ∃ x : Ext w, wr = x.w) (fun i _ => N - (intOf i).toNat)
  case atStart => exact ⟨0, Nat.zero_le _, rfl, Lib.hid (fun j hj => absurd hj (Nat.not_lt_zero j)), (Up.refl w).mk⟩
  case round =>
    obtain ⟨k, hk, rfl, Hk, x0, rfl⟩ := hrel
    by_cases hlt : k < N
    · have hlt' : (k : Int) < (N : Int) := by omega
      have k0 : (0 : Int) ≤ (k : Int) := by omega
      obtain ⟨x, hx⟩ : ∃ x, l[k]? = some x := ⟨_, List.getElem?_eq_getElem (by rw [HN.out]; exact hlt)⟩
      obtain ⟨b, o, rfl, hbw, hcc⟩ := Hc.out k x hx
      have c0 := hcc 0 _ rfl; have c1 := hcc 1 _ rfl; have c2 := hcc 2 _ rfl; have c3 := hcc 3 _ rfl; have c4 := hcc 4 _ rfl; have c5 := hcc 5 _ rfl; have c6 := hcc 6 _ rfl; have c7 := hcc 7 _ rfl; have c8 := hcc 8 _ rfl; have c9 := hcc 9 _ rfl; have c10 := hcc 10 _ rfl
      rw [Nat.add_zero] at c0
      haveI : LtSize b w := ⟨hbw⟩
      have xb := Hb.out x (List.mem_of_getElem? hx)
      have hR := fun w => dright_any x w xb
      have Hx := Lib.hid hx
      unfold Ln.val at hR
      clear hcc hx
      cases hr : x.right
      · have E := Lib.hid (ordered_no (k := k) (by rw [HN.out]; exact hlt) (ext_right_false Hx.out hr))
        rw [hr] at hR
        clear hr xb Hx
        go_wp2_with fail
        (refine wp_region_ext (by kernel_rfl) (by kernel_rfl) ?_; (repeat (go_big_quiet_step ((go_at_call 18; exact (hR _).ext)))); refine wpQuiet_nil ?_; rintro _ ⟨y, rfl⟩)
        go_wp2_with fail
        go_ret
        exact ⟨ret_bool E.out.symm, mkI⟩
      · rw [hr] at hR
        rcases Nat.eq_zero_or_pos k with hk0 | hk0
        · have E := Lib.hid (show okAt l k = true by subst hk0; rw [okAt_zero l x Hx.out]; exact hr)
          have hkz : decide (0 < k) = false := decide_eq_false (by omega)
          clear hr xb Hx hk0
          go_wp2_with fail
          (refine wp_region_ext (by kernel_rfl) (by kernel_rfl) ?_; (repeat (go_big_quiet_step ((go_at_call 18; exact (hR _).ext)))); refine wpQuiet_nil ?_; rintro _ ⟨y, rfl⟩)
          go_wp2_with fail
          go_roundw
          case rel => exact ⟨k + 1, by omega, by go_num, Lib.hid (fun j hj => by rcases Nat.lt_or_eq_of_le (Nat.le_of_lt_succ hj) with h | h; exact Hk.out j h; rw [h]; exact E.out), mkI⟩
          case measure => simp [intOf]; omega
        · obtain ⟨m, hm⟩ : ∃ m : Nat, k = m + 1 := ⟨k - 1, by omega⟩
          have hkp : (0 : Int) < (k : Int) := by omega
          have hkm : (k : Int) - 1 = (m : Int) := by omega
          have hm0 : (0 : Int) ≤ (m : Int) := by omega
          have hmN : (m : Int) < (N : Int) := by omega
          obtain ⟨y, hy⟩ : ∃ y, l[m]? = some y := ⟨_, List.getElem?_eq_getElem (by rw [HN.out]; omega)⟩
          obtain ⟨b', o', hp', _, hcy⟩ := Hc.out m y hy
          simp only [Option.some.injEq, Addr.mk.injEq, and_true] at hp'
          obtain ⟨rfl, rfl⟩ := hp'
          have d0 := hcy 0 _ rfl; have d1 := hcy 1 _ rfl; have d2 := hcy 2 _ rfl; have d3 := hcy 3 _ rfl; have d4 := hcy 4 _ rfl
          rw [Nat.add_zero] at d0
          have yb := Hb.out y (List.mem_of_getElem? hy)
          obtain ⟨C, hC⟩ : ∃ C, y.cmp x = C := ⟨_, rfl⟩
          have hcm := fun w => cmpK y.pr y.s y.d y.sp y.dp x.pr x.s x.d x.sp x.dp C w yb.key xb.key (Lib.hid hC)
          have EQ := Lib.hid (show okAt l k = decide (C < 0) by subst hm; rw [okAt_succ l m x y Hx.out hy, hr, Bool.true_and, hC])
          have hwm : wrap64 (m : Int) = (m : Int) := wrap_len m N (by omega) hl
          clear hcy hy hC xb yb Hx hm hr
          by_cases hC0 : C < 0
          · have E := Lib.hid (show okAt l k = true by rw [EQ.out]; exact decide_eq_true hC0)
            clear EQ
            go_wp2_with fail
            (refine wp_region_ext (by kernel_rfl) (by kernel_rfl) ?_; (repeat (go_big_quiet_step ((first
              | (go_at_call 18; exact (hR _).ext)
              | (go_at_call 55; exact (hcm _).ext))))); refine wpQuiet_nil ?_; rintro _ ⟨y1, rfl⟩)
            go_wp2_with fail
            go_roundw
            case rel => exact ⟨k + 1, by omega, by go_num, Lib.hid (fun j hj => by rcases Nat.lt_or_eq_of_le (Nat.le_of_lt_succ hj) with h | h; exact Hk.out j h; rw [h]; exact E.out), mkI⟩
            case measure => simp [intOf]; omega
          · have hC1 : 0 ≤ C := by omega
            have E := Lib.hid (ordered_no (l := l) (k := k) (by rw [HN.out]; exact hlt) (by rw [EQ.out]; exact decide_eq_false hC0))
            clear EQ hC0
            go_wp2_with fail
            (refine wp_region_ext (by kernel_rfl) (by kernel_rfl) ?_; (repeat (go_big_quiet_step ((first
              | (go_at_call 18; exact (hR _).ext)
              | (go_at_call 55; exact (hcm _).ext))))); refine wpQuiet_nil ?_; rintro _ ⟨y1, rfl⟩)
            go_wp2_with fail
            go_ret
            exact ⟨ret_bool E.out.symm, mkI⟩
    · have hlt' : (N : Int) ≤ (k : Int) := by omega
      have E := Lib.hid (ordered_yes (l := l) (fun j hj => Hk.out j (by rw [HN.out] at hj; omega)))
      clear hk hlt
      go_wp2_with fail
      go_ret
      exact ⟨ret_bool E.out.symm, mkI⟩
theorem infoStr1 : (Tryz.prog.info? 9).map (fun i => (i.zero, i.size, i.bytes)) = some (some (.string ⟨#[]⟩), 1, 16) := by kernel_rfl
set_option maxHeartbeats 4000000 in
set_option maxRecDepth 100000 in
theorem dtexts_no (l : List Ln) (v : Value) (w : World) (hv : LnRow w v l) (hb : ∀ x ∈ l, LnB x) (hl : l.length ≤ 1000000000) (h : orderedL l = false) : Gives Tryz.prog 25 #[v] w (.tuple #[.slice none 0 0, .int .i64 383]) := by
  have ho := fun (W : World) (u : UpI w W) => (dordered_any l v W (hv.up u.up) hb hl).cast (by rw [h])
  clear hv hb h
  unfold Gives
  go_enter Tryz.func25, Tryz.ntmps25
  go_wp2_with (go_at_call 21; refine (ho _ inferInstance).mono ?_; rintro e w' ⟨rfl, x, rfl⟩)
  go_ret2
  exact ⟨rfl, mkI⟩
set_option maxHeartbeats 16000000 in
set_option maxRecDepth 100000 in
theorem dtexts_yes (l : List Ln) (v : Value) (w : World) (g : GoodD w) (hv : LnRow w v l) (hb : ∀ x ∈ l, LnB x) (hl : l.length ≤ 1000000) (h : orderedL l = true) :
    Calls Tryz.prog 25 #[v] w fun e w' => ∃ u, e = .returned (.tuple #[u, .int .i64 0]) ∧ w'.ownsRow w.heap.size 9 1 u l.length (strCells (l.map Ln.text)) ∧ ∃ x : Ext w, w' = x.w := by
  have ho := fun (W : World) (u : UpI w W) => (dordered_any l v W (hv.up u.up) hb (by omega)).cast (by rw [h])
  have htx : ∀ x ∈ l, ∀ W, GoodD W → Gives Tryz.prog 15 #[x.val] W (.tuple #[.string ⟨x.text.toArray⟩, .int .i64 0]) := fun x hx W g => (dtext_any x W g (hb x hx)).cast (by unfold textE; rw [if_pos (ordered_right h hx)])
  obtain ⟨p, cap, rfl, hle, hc⟩ := hv
  obtain ⟨N, hN⟩ : ∃ N, l.length = N := ⟨_, rfl⟩
  rw [hN] at hle hl ho ⊢
  have HN := Lib.hid hN
  have Hc := Lib.hid hc
  have Ht := Lib.hid htx
  obtain ⟨i0, hi, hy0, hy1, hy2⟩ := info_parts infoStr1
  have Hi := Lib.hid hi; have Hy0 := Lib.hid hy0; have Hy1 := Lib.hid hy1; have Hy2 := Lib.hid hy2
  clear hN hc hb htx h hi hy0 hy1 hy2
  go_enter Tryz.func25, Tryz.ntmps25
  go_wp2_with (go_at_call 21; refine (ho _ inferInstance).mono ?_; rintro e w' ⟨rfl, x, rfl⟩)
  go_loopw [4, 14] (fun out i wr => ∃ k : Nat, k ≤ N ∧ i = .int .i64 (k : Int) ∧ Hid (wr.ownsRow w.heap.size 9 1 out k (strCells ((l.take k).map Ln.text))) ∧ ∃ x : Ext w, wr = x.w) (fun _ i _ => N - (intOf i).toNat)
  case atStart => exact ⟨0, Nat.zero_le _, rfl, Lib.hid (World.ownsRow_nil _ _ _ _), mkI⟩
  case round =>
    clear x ho
    obtain ⟨k, hk, rfl, Hown, x0, rfl⟩ := hrel
    by_cases hlt : k < N
    · have hlt' : (k : Int) < (N : Int) := by omega
      have k0 : (0 : Int) ≤ (k : Int) := by omega
      obtain ⟨x, hx⟩ : ∃ x, l[k]? = some x := ⟨_, List.getElem?_eq_getElem (by rw [HN.out]; exact hlt)⟩
      obtain ⟨b, o, rfl, hbw, hcc⟩ := Hc.out k x hx
      have c0 := hcc 0 _ rfl; have c1 := hcc 1 _ rfl; have c2 := hcc 2 _ rfl; have c3 := hcc 3 _ rfl; have c4 := hcc 4 _ rfl; have c5 := hcc 5 _ rfl; have c6 := hcc 6 _ rfl; have c7 := hcc 7 _ rfl; have c8 := hcc 8 _ rfl; have c9 := hcc 9 _ rfl; have c10 := hcc 10 _ rfl
      rw [Nat.add_zero] at c0
      haveI : LtSize b w := ⟨hbw⟩
      have h1 := Ht.out x (List.mem_of_getElem? hx)
      have E2 := Lib.hid (show strCells ((l.take (k + 1)).map Ln.text) = strCells ((l.take k).map Ln.text) ++ [.string ⟨x.text.toArray⟩] by rw [take_snoc3 l k x hx]; simp [strCells])
      unfold Ln.val at h1
      generalize x.text = tx at *
      generalize strCells ((l.take k).map Ln.text) = cs at *
      clear hcc hx
      go_wp2_with (first
        | (go_at_call 15; refine (h1 _ (g.up upI)).mono ?_; rintro e w' ⟨rfl, z, rfl⟩)
        | (at_builtin; refine wpList_append_own _ rfl _ _ 23 rfl w.heap.size 9 i0 (.string ⟨#[]⟩) 1 16 Tryz.underlying23 Hi.out Hy0.out Hy1.out Hy2.out rfl (by decide) _ _ _ rfl (owns_up Hown.out (upI : Up x0.w _)) ⟨_, 0, none⟩ 1 1 [.string ⟨tx.toArray⟩] rfl rfl ?c1 ?c2 ?c3 ?c4 ?c5 ?_))
      case c1 => exact cell_one_new _ _ _
      case c2 => simp [Value.oneCell']
      case c3 => unfold maxLen; omega
      case c4 => omega
      case c5 => exact (upI : Up w _).size
      intro v' w1 hown' hgrow _
      have hu1 : Up w w1 := Up.grown (upI : Up w _) hgrow (owns_row Hown.out)
      obtain ⟨x1, rfl⟩ := hu1.mk
      have Hown' := Lib.hid hown'
      clear hown' hgrow Hown h1 hu1
      go_wp2_with fail
      go_roundw
      case rel => exact ⟨k + 1, by omega, by go_num, by rw [E2.out]; exact Hown', mkI⟩
      case measure => simp [intOf]; omega
    · obtain rfl : k = N := by omega
      have e : l.take k = l := List.take_of_length_le (by rw [HN.out]; omega)
      rw [e] at Hown
      go_wp2_with fail
      go_ret2
      exact ⟨_, rfl, Hown.out, mkI⟩
end Go.Proofs.YtlbbepgfjigjpaaGreatDoor
namespace Go.Ab
open Go.RowKit Go.Proofs.YtlbbepgfjigjpaaGreatDoor
def rstep (out : List Ln) (s : List UInt8) : Option Ln :=
  match readLn s with
  | none => none
  | some x => match out.getLast? with
    | none => some x
    | some y => if y.cmp x < 0 then some x else none
/-- The lines read, or where reading fails. -/
def readsFrom : List Ln → List (List UInt8) → Option (List Ln) × Nat
  | out, [] => (some out, 0)
  | out, s :: t => match rstep out s with
    | none => (none, out.length)
    | some x => readsFrom (out ++ [x]) t
def readsL (l : List (List UInt8)) : Option (List Ln) × Nat := readsFrom [] l
theorem reads_no {out : List Ln} {l : List (List UInt8)} {k : Nat} {s : List UInt8} (hs : l[k]? = some s) (h : rstep out s = none) : readsFrom out (l.drop k) = (none, out.length) := by
  have : l.drop k = s :: l.drop (k + 1) := by
    obtain ⟨hk, rfl⟩ := List.getElem?_eq_some_iff.1 hs
    exact List.drop_eq_getElem_cons hk
  rw [this, readsFrom, h]
theorem reads_go {out : List Ln} {l : List (List UInt8)} {k : Nat} {s : List UInt8} {x : Ln} (hs : l[k]? = some s) (h : rstep out s = some x) : readsFrom out (l.drop k) = readsFrom (out ++ [x]) (l.drop (k + 1)) := by
  have : l.drop k = s :: l.drop (k + 1) := by
    obtain ⟨hk, rfl⟩ := List.getElem?_eq_some_iff.1 hs
    exact List.drop_eq_getElem_cons hk
  rw [this, readsFrom, h]
theorem lnCells_snoc (l : List Ln) (x : Ln) : (l ++ [x]).flatMap Ln.cells = l.flatMap Ln.cells ++ x.cells := by simp
def StrRow (w : World) (v : Value) (l : List (List UInt8)) : Prop := RowOf (fun x : List UInt8 => [Value.string ⟨x.toArray⟩]) 1 w v l
def readsE (r : Option (List Ln) × Nat) (w0 : World) (e : Ending) (w' : World) (t : TypeId) : Prop :=
  match r with
  | (some xs, _) => ∃ u, e = .returned (.tuple #[u, .int .i64 (-1), .int .i64 0]) ∧ w'.ownsRow w0.heap.size t 11 u xs.length (xs.flatMap Ln.cells)
  | (none, i) => e = .returned (.tuple #[.slice none 0 0, .int .i64 (i : Int), .int .i64 382])
end Go.Ab
namespace Go.Proofs.YtlbbepgfjigjpaaGreatDoor
open Go.RowKit Go.Ab
theorem infoLine : (Tryz.prog.info? 31).map (fun i => (i.zero, i.size, i.bytes)) = some (some Ln.zero.val, 11, 40) := by kernel_rfl
set_option maxHeartbeats 32000000 in
set_option maxRecDepth 100000 in
theorem dreads_any (l : List (List UInt8)) (v : Value) (w : World) (g : GoodD w) (hv : StrRow w v l) (hb : ∀ s ∈ l, s.length ≤ 1000000000) (hl : l.length ≤ 1000000) :
    Calls Tryz.prog 26 #[v] w fun e w' => readsE (readsL l) w e w' 31 ∧ ∃ x : Ext w, w' = x.w := by
  obtain ⟨p, cap, rfl, hle, hc⟩ := hv
  obtain ⟨N, hN⟩ : ∃ N, l.length = N := ⟨_, rfl⟩
  rw [hN] at hle hl ⊢
  have HN := Lib.hid hN
  have Hc := Lib.hid hc
  have Hb := Lib.hid hb
  obtain ⟨T, hT⟩ : ∃ T, readsL l = T := ⟨_, rfl⟩
  rw [hT]
  have HT0 := Lib.hid (show readsFrom [] (l.drop 0) = T from hT)
  obtain ⟨i0, hi, hy0, hy1, hy2⟩ := info_parts infoLine
  have Hi := Lib.hid hi; have Hy0 := Lib.hid hy0; have Hy1 := Lib.hid hy1; have Hy2 := Lib.hid hy2
  clear hN hc hb hT hi hy0 hy1 hy2
  go_enter Tryz.func26, Tryz.ntmps26
  go_wp2_with fail
  go_loopw [5, 12] (fun out i wr => ∃ (k : Nat) (os : List Ln), k ≤ N ∧ i = .int .i64 (k : Int) ∧ Hid (os.length = k) ∧ Hid (readsFrom os (l.drop k) = T) ∧ Hid (∀ x ∈ os, LnB x) ∧ Hid (wr.ownsRow w.heap.size 31 11 out k (os.flatMap Ln.cells)) ∧ ∃ x : Ext w, wr = x.w) (fun _ i _ => N - (intOf i).toNat)
  case atStart => exact ⟨0, [], Nat.zero_le _, rfl, rfl, HT0, Lib.hid (fun x hx => by cases hx), Lib.hid (World.ownsRow_nil _ _ _ _), (Up.refl w).mk⟩
  case round =>
    clear HT0
    obtain ⟨k, os, hk, rfl, Ho, HT, HB, Hown, x0, rfl⟩ := hrel
    by_cases hlt : k < N
    · have hlt' : (k : Int) < (N : Int) := by omega
      have k0 : (0 : Int) ≤ (k : Int) := by omega
      obtain ⟨s, hs⟩ : ∃ s, l[k]? = some s := ⟨_, List.getElem?_eq_getElem (by rw [HN.out]; exact hlt)⟩
      obtain ⟨b, o, rfl, hbw, hcc⟩ := Hc.out k s hs
      have c0 := hcc 0 _ rfl
      rw [Nat.add_zero, Nat.mul_one] at c0
      haveI : LtSize b w := ⟨hbw⟩
      have hrd := fun W g => dread_any s W g (Hb.out s (List.mem_of_getElem? hs))
      unfold dreadV at hrd
      have Hs := Lib.hid hs
      clear hcc hs
      cases hr : readLn s with
      | none =>
        have E := Lib.hid (show T = (none, k) by rw [← HT.out, reads_no Hs.out (by unfold rstep; rw [hr]), Ho.out])
        simp only [hr, Ln.val, Ln.zero] at hrd
        clear hr
        go_wp2_with (go_at_call 16; refine (hrd _ (g.up upI)).mono ?_; rintro e w' ⟨rfl, y, rfl⟩)
        (refine wp_region_ext (by kernel_rfl) (by kernel_rfl) ?_; (repeat (go_big_quiet_step (fail))); refine wpQuiet_nil ?_; rintro _ ⟨y1, rfl⟩)
        go_wp2_with fail
        go_ret3
        rw [E.out]
        exact ⟨rfl, mkI⟩
      | some x =>
        have xb := readLn_b hr
        simp only [hr, Ln.val] at hrd
        rcases Nat.eq_zero_or_pos k with hk0 | hk0
        · have hkz : decide (0 < k) = false := decide_eq_false (by omega)
          have hrs : rstep os s = some x := by
            have h0 : os = [] := List.length_eq_zero_iff.1 (by rw [Ho.out]; exact hk0)
            unfold rstep; rw [hr, h0]; rfl
          have E := Lib.hid (show readsFrom (os ++ [x]) (l.drop (k + 1)) = T by rw [← HT.out, reads_go Hs.out hrs])
          have E2 := Lib.hid (lnCells_snoc os x)
          have HB2 := Lib.hid (show ∀ z ∈ os ++ [x], LnB z from fun z hz => by rcases List.mem_append.1 hz with h | h; exact HB.out z h; simp at h; rw [h]; exact xb)
          have Ho2 := Lib.hid (show (os ++ [x]).length = k + 1 by rw [List.length_append, Ho.out]; rfl)
          generalize os.flatMap Ln.cells = cs at *
          clear hr hrs hk0 HT HB Ho xb
          go_wp2_with (go_at_call 16; refine (hrd _ (g.up upI)).mono ?_; rintro e w' ⟨rfl, y, rfl⟩)
          (refine wp_region_ext (by kernel_rfl) (by kernel_rfl) ?_; (repeat (go_big_quiet_step (fail))); refine wpQuiet_nil ?_; rintro _ ⟨y1, rfl⟩)
          go_wp2_with (at_builtin; refine wpList_append_own _ rfl _ _ 22 rfl w.heap.size 31 i0 Ln.zero.val 11 40 Tryz.underlying22 Hi.out Hy0.out Hy1.out Hy2.out rfl (by decide) _ _ _ rfl (owns_up Hown.out (upI : Up x0.w _)) ⟨_, 0, none⟩ 1 1 x.cells rfl rfl ?c1 ?c2 ?c3 ?c4 ?c5 ?_)
          case c1 =>
            intro j u hj
            have hj11 : j < 11 := (List.getElem?_eq_some_iff.1 hj).1
            rcases (by omega : j = 0 ∨ j = 1 ∨ j = 2 ∨ j = 3 ∨ j = 4 ∨ j = 5 ∨ j = 6 ∨ j = 7 ∨ j = 8 ∨ j = 9 ∨ j = 10) with rfl | rfl | rfl | rfl | rfl | rfl | rfl | rfl | rfl | rfl | rfl
            all_goals (simp [Ln.cells] at hj; subst hj; simp [Addr.add, go_sem])
          case c2 =>
            intro u hu
            simp [Ln.cells] at hu
            rcases hu with rfl | rfl | rfl | rfl | rfl | rfl | rfl | rfl | rfl | rfl | rfl <;> rfl
          case c3 => unfold maxLen; omega
          case c4 => omega
          case c5 => exact (upI : Up w _).size
          intro v' w1 hown' hgrow _
          have hu1 : Up w w1 := Up.grown (upI : Up w _) hgrow (owns_row Hown.out)
          obtain ⟨x1, rfl⟩ := hu1.mk
          have Hown' := Lib.hid hown'
          clear hown' hgrow Hown hrd hu1
          go_wp2_with fail
          go_roundw
          case rel => exact ⟨k + 1, os ++ [x], by omega, by go_num, Ho2, E, HB2, by rw [E2.out]; exact Hown', mkI⟩
          case measure => simp [intOf]; omega
        · obtain ⟨m, hm⟩ : ∃ m : Nat, k = m + 1 := ⟨k - 1, by omega⟩
          have hkp : decide (0 < k) = true := decide_eq_true hk0
          have hkm : (k : Int) - 1 = (m : Int) := by omega
          have hm0 : (0 : Int) ≤ (m : Int) := by omega
          have hmk : (m : Int) < (k : Int) := by omega
          have hwm : wrap64 (m : Int) = (m : Int) := wrap_len m N (by omega) (by omega)
          obtain ⟨y, hy⟩ : ∃ y, os[m]? = some y := ⟨_, List.getElem?_eq_getElem (by rw [Ho.out]; omega)⟩
          have hlast : os.getLast? = some y := by rw [List.getLast?_eq_getElem?, Ho.out, hm]; simpa using hy
          have yb := HB.out y (List.mem_of_getElem? hy)
          obtain ⟨C, hC⟩ : ∃ C, y.cmp x = C := ⟨_, rfl⟩
          have hcm := fun w => cmpK y.pr y.s y.d y.sp y.dp x.pr x.s x.d x.sp x.dp C w yb.key xb.key (Lib.hid hC)
          obtain ⟨gg, cap2, hgv, hg1, hg2, hg3, hgc⟩ := owns_cells Hown.out hk0
          subst hgv
          have q0 := hgc (m * 11 + 0) _ (flat_at Ln.cells_length os m 0 y _ hy rfl); have q1 := hgc (m * 11 + 1) _ (flat_at Ln.cells_length os m 1 y _ hy rfl); have q2 := hgc (m * 11 + 2) _ (flat_at Ln.cells_length os m 2 y _ hy rfl); have q3 := hgc (m * 11 + 3) _ (flat_at Ln.cells_length os m 3 y _ hy rfl); have q4 := hgc (m * 11 + 4) _ (flat_at Ln.cells_length os m 4 y _ hy rfl)
          rw [Nat.add_zero] at q0
          haveI : LtSize gg x0.w := ⟨hg2⟩
          by_cases hC0 : C < 0
          · have hrs : rstep os s = some x := by unfold rstep; rw [hr, hlast]; simp only [hC]; rw [if_pos hC0]
            have E := Lib.hid (show readsFrom (os ++ [x]) (l.drop (k + 1)) = T by rw [← HT.out, reads_go Hs.out hrs])
            have E2 := Lib.hid (lnCells_snoc os x)
            have HB2 := Lib.hid (show ∀ z ∈ os ++ [x], LnB z from fun z hz => by rcases List.mem_append.1 hz with h | h; exact HB.out z h; simp at h; rw [h]; exact xb)
            have Ho2 := Lib.hid (show (os ++ [x]).length = k + 1 by rw [List.length_append, Ho.out]; rfl)
            clear hgc
            generalize os.flatMap Ln.cells = cs at *
            clear hr hrs hk0 HT HB Ho xb yb hC hlast hy hm hg3
            go_wp2_with (go_at_call 16; refine (hrd _ (g.up upI)).mono ?_; rintro e w' ⟨rfl, y, rfl⟩)
            (refine wp_region_ext (by kernel_rfl) (by kernel_rfl) ?_; (repeat (go_big_quiet_step ((go_at_call 55; exact (hcm _).ext)))); refine wpQuiet_nil ?_; rintro _ ⟨y1, rfl⟩)
            go_wp2_with (at_builtin; refine wpList_append_own _ rfl _ _ 22 rfl w.heap.size 31 i0 Ln.zero.val 11 40 Tryz.underlying22 Hi.out Hy0.out Hy1.out Hy2.out rfl (by decide) _ _ _ rfl (owns_up Hown.out (upI : Up x0.w _)) ⟨_, 0, none⟩ 1 1 x.cells rfl rfl ?c1 ?c2 ?c3 ?c4 ?c5 ?_)
            case c1 =>
              intro j u hj
              have hj11 : j < 11 := (List.getElem?_eq_some_iff.1 hj).1
              rcases (by omega : j = 0 ∨ j = 1 ∨ j = 2 ∨ j = 3 ∨ j = 4 ∨ j = 5 ∨ j = 6 ∨ j = 7 ∨ j = 8 ∨ j = 9 ∨ j = 10) with rfl | rfl | rfl | rfl | rfl | rfl | rfl | rfl | rfl | rfl | rfl
              all_goals (simp [Ln.cells] at hj; subst hj; simp [Addr.add, go_sem])
            case c2 =>
              intro u hu
              simp [Ln.cells] at hu
              rcases hu with rfl | rfl | rfl | rfl | rfl | rfl | rfl | rfl | rfl | rfl | rfl <;> rfl
            case c3 => unfold maxLen; omega
            case c4 => omega
            case c5 => exact (upI : Up w _).size
            intro v' w1 hown' hgrow _
            have hu1 : Up w w1 := Up.grown (upI : Up w _) hgrow (owns_row Hown.out)
            obtain ⟨x1, rfl⟩ := hu1.mk
            have Hown' := Lib.hid hown'
            clear hown' hgrow Hown hrd hu1 hcm q0 q1 q2 q3 q4
            go_wp2_with fail
            go_roundw
            case rel => exact ⟨k + 1, os ++ [x], by omega, by go_num, Ho2, E, HB2, by rw [E2.out]; exact Hown', mkI⟩
            case measure => simp [intOf]; omega
          · have hC1 : 0 ≤ C := by omega
            have E := Lib.hid (show T = (none, k) by rw [← HT.out, reads_no Hs.out (by unfold rstep; rw [hr, hlast]; simp only [hC]; rw [if_neg hC0]), Ho.out])
            clear hr hk0 HT HB xb yb hC hlast hy hm hg3 hC0 hgc
            go_wp2_with (go_at_call 16; refine (hrd _ (g.up upI)).mono ?_; rintro e w' ⟨rfl, y, rfl⟩)
            (refine wp_region_ext (by kernel_rfl) (by kernel_rfl) ?_; (repeat (go_big_quiet_step ((go_at_call 55; exact (hcm _).ext)))); refine wpQuiet_nil ?_; rintro _ ⟨y1, rfl⟩)
            go_wp2_with fail
            go_ret3
            rw [E.out]
            exact ⟨rfl, mkI⟩
    · obtain rfl : k = N := by omega
      have E := Lib.hid (show T = (some os, 0) by rw [← HT.out, List.drop_of_length_le (by rw [HN.out]; exact Nat.le_refl _)]; rfl)
      have hown := Hown.out
      rw [← Ho.out] at hown
      have Hown2 := Lib.hid hown
      clear hown
      go_wp2_with fail
      go_ret3
      rw [E.out]
      exact ⟨⟨_, rfl, Hown2.out⟩, mkI⟩
end Go.Proofs.YtlbbepgfjigjpaaGreatDoor
