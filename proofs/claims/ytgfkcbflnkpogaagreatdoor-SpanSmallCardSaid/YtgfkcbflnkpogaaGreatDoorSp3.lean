/- Package span: what Count, Next and Has return. -/
import Derived.Test.YtgfkcbflnkpogaaGreatDoorSp2
set_option linter.unusedSimpArgs false
set_option linter.unusedVariables false
namespace Go.Ab
open Go.RowKit
theorem alloc_at (w : World) (o : Obj) : (w.alloc o).heap[w.heap.size]? = some o := by show (w.heap.push o)[w.heap.size]? = some o; simp
theorem spRow_new (w : World) (v : Value) (s : List Sp) (t : TypeId) : RowOf vsCells 1 (w.alloc (.cells #[v] t)) (.slice (some ⟨w.heap.size, 0, none⟩) 1 1) [(v, s)] :=
  RowOf.of_block (cells := vsCells) (k := 1) (t := t) (fz := (0, 0)) (fun x => rfl) (l := [(v, s)]) (alloc_at w _) (Nat.le_refl _)
theorem spRow_two (w : World) (v u : Value) (s r : List Sp) (t : TypeId) : RowOf vsCells 1 (w.alloc (.cells #[v, u] t)) (.slice (some ⟨w.heap.size, 0, none⟩) 2 2) [(v, s), (u, r)] :=
  RowOf.of_block (cells := vsCells) (k := 1) (t := t) (fz := (0, 0)) (fun x => rfl) (l := [(v, s), (u, r)]) (alloc_at w _) (Nat.le_refl _)
theorem sp_two {α : Type} {p : α → Prop} {a b : α} (ha : p a) (hb : p b) : ∀ x ∈ [a, b], p x := fun x hx => by
  rcases List.mem_cons.1 hx with rfl | hx
  · exact ha
  · rw [List.mem_singleton.1 hx]; exact hb
theorem countL_take {s : List Sp} {k : Nat} {x : Sp} (h : s[k]? = some x) : countL (s.take (k + 1)) = countL (s.take k) + (x.2 - x.1 + 1) := by
  obtain ⟨hk, he⟩ := List.getElem?_eq_some_iff.1 h
  unfold countL
  rw [List.take_add_one, h]
  simp
theorem countL_bd (s : List Sp) (hb : ∀ x ∈ s, SpB x) (hl : ∀ x ∈ s, x.1 ≤ x.2) : ∀ k, 0 ≤ countL (s.take k) ∧ countL (s.take k) ≤ 4294967296 * k
  | 0 => by simp [countL]
  | k + 1 => by
    obtain ⟨h0, h1⟩ := countL_bd s hb hl k
    cases h : s[k]? with
    | none => rw [List.take_of_length_le (by have := List.getElem?_eq_none_iff.1 h; omega), ← List.take_of_length_le (i := k) (l := s) (by exact List.getElem?_eq_none_iff.1 h)]; omega
    | some x =>
      rw [countL_take h]
      have hx := List.mem_of_getElem? h
      have := hb x hx
      have h2 := hl x hx
      have := this.f0; have := (hb x hx).t1
      omega
theorem wrongL_cases (s : List Sp) : wrongL s = 5 ∨ wrongL s = 2 ∨ (wrongL s = 0 ∧ rightS s = true ∧ s.length ≤ 4096) := by
  unfold wrongL
  split
  · exact .inl rfl
  · split
    · rename_i h1 h2; exact .inr (.inr ⟨rfl, h2, by omega⟩)
    · exact .inr (.inl rfl)
theorem nextL_take {s : List Sp} {k : Nat} {x : Sp} (n : Int) (h : s[k]? = some x) : nextL (s.take (k + 1)) n = nextStep n (nextL (s.take k) n) x := by
  unfold nextL
  rw [List.take_add_one, h]
  simp
theorem nextL_bd (s : List Sp) (n : Int) (n0 : 0 ≤ n) (hb : ∀ x ∈ s, SpB x) (n1 : n < 4294967296) : 0 ≤ (nextL s n).1 ∧ (nextL s n).1 < 4294967296 := by
  have ok := nextL_ok s n
  cases h : (nextL s n).2
  · rw [(ok.no h).1]; omega
  · exact hasS_bd hb (ok.yes h).2.1
end Go.Ab
namespace Go.Proofs.YtgfkcbflnkpogaaGreatDoor
open Go.RowKit Go.Ab
attribute [local go_sem high] wrapI64 wrapK64
set_option maxHeartbeats 8000000 in
set_option maxRecDepth 100000 in
theorem spcount_no (s : List Sp) (v : Value) (w : World) (hv : SpRow w v s) (hb : ∀ x ∈ s, SpB x) (hl : s.length ≤ 1000000000) (e : Int) (he : wrongL s = e) (hz : (e != 0) = true) : Gives Tryz.prog 17 #[v] w (.tuple #[.int .i64 0, .int .i64 e]) := by
  have hw := fun (W : World) (u : UpI w W) => (spwrong_any [(v, s)] (.slice (some ⟨W.heap.size, 0, none⟩) 1 1) (W.alloc (.cells #[v] 25)) (spRow_new W v s _) (fun x hx => by rw [List.mem_singleton.1 hx]; exact ⟨hv.up (u.up.alloc _), hb, hl⟩) (by simp)).cast (by rw [List.map_cons, List.map_nil, wrongLs_one, he])
  obtain ⟨p, cap, rfl⟩ := sp_len hv
  clear hv hb hl he
  unfold Gives
  go_enter Tryz.func17, Tryz.ntmps17
  go_wp2_with (go_at_call 40; refine (hw w inferInstance).mono ?_; clear hw; rintro e w' ⟨rfl, z, rfl⟩)
  go_ret2
  exact ⟨rfl, mkI⟩
set_option maxHeartbeats 8000000 in
set_option maxRecDepth 100000 in
theorem spcount_yes (s : List Sp) (v : Value) (w : World) (hv : SpRow w v s) (hb : ∀ x ∈ s, SpB x) (hr : rightS s = true) (hl : s.length ≤ 4096) : Gives Tryz.prog 17 #[v] w (.tuple #[.int .i64 (countL s), .int .i64 0]) := by
  have he : wrongL s = 0 := by unfold wrongL; rw [if_neg (by omega), if_pos hr]
  have hw := fun (W : World) (u : UpI w W) => (spwrong_any [(v, s)] (.slice (some ⟨W.heap.size, 0, none⟩) 1 1) (W.alloc (.cells #[v] 25)) (spRow_new W v s _) (fun x hx => by rw [List.mem_singleton.1 hx]; exact ⟨hv.up (u.up.alloc _), hb, Nat.le_trans hl (by omega)⟩) (by simp)).cast (by rw [List.map_cons, List.map_nil, wrongLs_one, he])
  have Hc := Lib.hid (fun k x (h : s[k]? = some x) (p : Option Addr) (n cap : Nat) (e : v = .slice p n cap) => sp_at hv e h)
  have hcb := Lib.hid (countL_bd s hb (rF_le hr))
  obtain ⟨p, cap, rfl, hle, _⟩ := hv
  obtain ⟨N, hN⟩ : ∃ N, s.length = N := ⟨_, rfl⟩
  rw [hN] at hle hl hw Hc ⊢
  have HN := Lib.hid hN
  have Hb := Lib.hid hb
  have Hl := Lib.hid (rF_le hr)
  clear hN hb hr he
  unfold Gives
  go_enter Tryz.func17, Tryz.ntmps17
  go_wp2_with (go_at_call 40; refine (hw w inferInstance).mono ?_; clear hw; rintro e w' ⟨rfl, z, rfl⟩)
  go_loopw [5, 16] (fun c i wr => ∃ (k : Nat) (n : Int), k ≤ N ∧ i = .int .i64 (k : Int) ∧ c = .int .i64 n ∧ 0 ≤ n ∧ n ≤ 4294967296 * k ∧ Hid (countL (s.take k) = n) ∧ ∃ x : Ext w, wr = x.w) (fun _ i _ => N - (intOf i).toNat)
  case atStart => exact ⟨0, 0, Nat.zero_le _, rfl, rfl, Int.le_refl _, by omega, Lib.hid rfl, mkI⟩
  case round =>
    obtain ⟨k, n, hk, rfl, rfl, n0, n1, Hn, x0, rfl⟩ := hrel
    by_cases hlt : k < N
    · have hlt' : (k : Int) < (N : Int) := by omega
      have k0 : (0 : Int) ≤ (k : Int) := by omega
      obtain ⟨x, hx⟩ : ∃ x, s[k]? = some x := ⟨_, List.getElem?_eq_getElem (by rw [HN.out]; exact hlt)⟩
      obtain ⟨b, o, rfl, hbw, c0, c1⟩ := Hc.out k x hx _ _ _ rfl
      haveI : LtSize b w := ⟨hbw⟩
      have xb := Hb.out x (List.mem_of_getElem? hx)
      have xl := Hl.out x (List.mem_of_getElem? hx)
      obtain ⟨xf0, xf1, xt0, xt1⟩ := xb
      have Hn' := Lib.hid (show countL (s.take (k + 1)) = n + (x.2 - x.1 + 1) by rw [countL_take hx, Hn.out])
      clear hx Hn
      haveI : In64 (x.2 - x.1) := ⟨by omega⟩
      haveI : In64 (x.2 - x.1 + 1) := ⟨by omega⟩
      haveI : In64 (n + (x.2 - x.1 + 1)) := ⟨by omega⟩
      go_wp2_with fail
      go_roundw
      case rel => exact ⟨k + 1, n + (x.2 - x.1 + 1), by omega, by go_num, rfl, by omega, by omega, Hn', mkI⟩
      case measure => simp [intOf]; omega
    · obtain rfl : k = N := by omega
      have E := Lib.hid (show countL s = n by rw [← Hn.out, List.take_of_length_le (by rw [HN.out]; exact Nat.le_refl _)])
      go_wp2_with fail
      go_ret2
      exact ⟨by rw [E.out]; rfl, mkI⟩
theorem spcount_any (s : List Sp) (v : Value) (w : World) (hv : SpRow w v s) (hb : ∀ x ∈ s, SpB x) (hl : s.length ≤ 1000000000) : Gives Tryz.prog 17 #[v] w (.tuple #[.int .i64 (if wrongL s = 0 then countL s else 0), .int .i64 (wrongL s)]) := by
  rcases wrongL_cases s with h | h | ⟨h, h1, h2⟩
  · rw [h]; exact spcount_no s v w hv hb hl 5 h rfl
  · rw [h]; exact spcount_no s v w hv hb hl 2 h rfl
  · rw [h]; exact spcount_yes s v w hv hb h1 h2
set_option maxHeartbeats 8000000 in
set_option maxRecDepth 100000 in
theorem spnext_any (s : List Sp) (m : Int) (v : Value) (w : World) (hv : SpRow w v s) (hb : ∀ x ∈ s, SpB x) (m0 : 0 ≤ m) (m1 : m < 4294967296) (hl : s.length ≤ 1000000000) : Gives Tryz.prog 24 #[v, .int .u32 m] w (.tuple #[.int .u32 (nextL s m).1, .bool (nextL s m).2]) := by
  have Hc := Lib.hid (fun k x (h : s[k]? = some x) (p : Option Addr) (n cap : Nat) (e : v = .slice p n cap) => sp_at hv e h)
  obtain ⟨p, cap, rfl, hle, _⟩ := hv
  obtain ⟨N, hN⟩ : ∃ N, s.length = N := ⟨_, rfl⟩
  rw [hN] at hle hl Hc ⊢
  have HN := Lib.hid hN
  have Hb := Lib.hid hb
  clear hN hb
  unfold Gives
  go_enter Tryz.func24, Tryz.ntmps24
  go_wp2_with fail
  go_loopw [6, 7, 13] (fun c d i wr => ∃ (k : Nat) (n : Int) (q : Bool), k ≤ N ∧ i = .int .i64 (k : Int) ∧ c = .int .u32 n ∧ d = .bool q ∧ Hid (nextL (s.take k) m = (n, q)) ∧ ∃ x : Ext w, wr = x.w) (fun _ _ i _ => N - (intOf i).toNat)
  case atStart => exact ⟨0, 0, false, Nat.zero_le _, rfl, rfl, rfl, Lib.hid rfl, mkI⟩
  case round =>
    obtain ⟨k, n, q, hk, rfl, rfl, rfl, Hn, x0, rfl⟩ := hrel
    by_cases hlt : k < N
    · have hlt' : (k : Int) < (N : Int) := by omega
      have k0 : (0 : Int) ≤ (k : Int) := by omega
      obtain ⟨x, hx⟩ : ∃ x, s[k]? = some x := ⟨_, List.getElem?_eq_getElem (by rw [HN.out]; exact hlt)⟩
      obtain ⟨b, o, rfl, hbw, c0, c1⟩ := Hc.out k x hx _ _ _ rfl
      haveI : LtSize b w := ⟨hbw⟩
      have xb := Hb.out x (List.mem_of_getElem? hx)
      obtain ⟨xf0, xf1, xt0, xt1⟩ := xb
      have Hn' := Lib.hid (show nextL (s.take (k + 1)) m = nextStep m (n, q) x by rw [nextL_take m hx, Hn.out])
      clear hx Hn
      by_cases hc1 : max x.1 m ≤ x.2
      · have hd1 : decide (max x.1 m ≤ x.2) = true := decide_eq_true hc1
        cases q
        · have E := Lib.hid (show nextL (s.take (k + 1)) m = (max x.1 m, true) by rw [Hn'.out]; unfold nextStep; rw [if_pos ⟨hc1, .inl rfl⟩])
          clear Hn'
          go_wp2_with fail
          go_roundw
          case rel => exact ⟨k + 1, _, _, by omega, by go_num, rfl, rfl, E, mkI⟩
          case measure => simp [intOf]; omega
        · by_cases hc2 : max x.1 m < n
          · have E := Lib.hid (show nextL (s.take (k + 1)) m = (max x.1 m, true) by rw [Hn'.out]; unfold nextStep; rw [if_pos ⟨hc1, .inr hc2⟩])
            have hd2 : decide (max x.1 m < n) = true := decide_eq_true hc2
            clear Hn'
            go_wp2_with fail
            go_roundw
            case rel => exact ⟨k + 1, _, _, by omega, by go_num, rfl, rfl, E, mkI⟩
            case measure => simp [intOf]; omega
          · have E := Lib.hid (show nextL (s.take (k + 1)) m = (n, true) by rw [Hn'.out]; unfold nextStep; rw [if_neg (by rintro ⟨_, h | h⟩; cases h; exact hc2 h)])
            have hd2 : decide (max x.1 m < n) = false := decide_eq_false hc2
            clear Hn'
            go_wp2_with fail
            go_roundw
            case rel => exact ⟨k + 1, _, _, by omega, by go_num, rfl, rfl, E, mkI⟩
            case measure => simp [intOf]; omega
      · have E := Lib.hid (show nextL (s.take (k + 1)) m = (n, q) by rw [Hn'.out]; unfold nextStep; rw [if_neg (fun h => hc1 h.1)])
        have hd1 : decide (max x.1 m ≤ x.2) = false := decide_eq_false hc1
        clear Hn'
        go_wp2_with fail
        go_roundw
        case rel => exact ⟨k + 1, _, _, by omega, by go_num, rfl, rfl, E, mkI⟩
        case measure => simp [intOf]; omega
    · obtain rfl : k = N := by omega
      have E := Lib.hid (show nextL s m = (n, q) by rw [← Hn.out, List.take_of_length_le (by rw [HN.out]; exact Nat.le_refl _)])
      go_wp2_with fail
      go_ret2
      exact ⟨by rw [E.out]; rfl, mkI⟩
set_option maxHeartbeats 8000000 in
theorem sphas1_any (x : Sp) (m : Int) (cb : Nat) (w : World) (hc : w.cell? ⟨cb, 0, none⟩ = some (.int .u32 m)) : Gives Tryz.prog 57 #[.agg #[.int .u32 x.1, .int .u32 x.2], .pointer (some ⟨cb, 0, none⟩)] w (.bool (spIn x m)) := by
  haveI : LtSize cb w := ⟨cell_lt' hc⟩
  unfold Gives spIn
  by_cases h : x.1 ≤ m
  · have hd : decide (x.1 ≤ m) = true := decide_eq_true h
    rw [hd, Bool.true_and]
    go_enter Tryz.func57, Tryz.ntmps57
    go_wp2
    go_ret
    exact ⟨rfl, mkI⟩
  · have hd : decide (x.1 ≤ m) = false := decide_eq_false h
    rw [hd, Bool.false_and]
    go_enter Tryz.func57, Tryz.ntmps57
    go_wp2
    go_ret
    exact ⟨rfl, mkI⟩
set_option maxHeartbeats 16000000 in
set_option maxRecDepth 100000 in
theorem spindex_any (s : List Sp) (m : Int) (cb : Nat) (v : Value) (w : World) (hcb : w.cell? ⟨cb, 0, none⟩ = some (.int .u32 m)) (hv : SpRow w v s) (hl : s.length ≤ 1000000000) :
    Calls Tryz.prog 89 #[v, .func (.func 57) #[] #[.pointer (some ⟨cb, 0, none⟩)]] w fun e w' => (∃ n : Int, e = .returned (.int .i64 n) ∧ decide (0 ≤ n) = hasS s m) ∧ ∃ x : Ext w, w' = x.w := by
  have Hc := Lib.hid (fun k x (h : s[k]? = some x) (p : Option Addr) (n cap : Nat) (e : v = .slice p n cap) => sp_at hv e h)
  obtain ⟨p, cap, rfl, hle, _⟩ := hv
  obtain ⟨N, hN⟩ : ∃ N, s.length = N := ⟨_, rfl⟩
  rw [hN] at hle hl Hc ⊢
  have HN := Lib.hid hN
  have hcl : ∀ (x : Sp) W, UpI w W → Gives Tryz.prog 57 #[.agg #[.int .u32 x.1, .int .u32 x.2], .pointer (some ⟨cb, 0, none⟩)] W (.bool (spIn x m)) := fun x W u => sphas1_any x m cb W (u.up.cell_some' hcb)
  clear hN hcb
  go_enter Tryz.func89, Tryz.ntmps89
  go_wp2_with fail
  go_loopw [8] (fun i wr => ∃ k : Nat, k ≤ N ∧ i = .int .i64 (k : Int) ∧ Hid (hasS (s.take k) m = false) ∧ ∃ x : Ext w, wr = x.w) (fun i _ => N - (intOf i).toNat)
  case atStart => exact ⟨0, Nat.zero_le _, rfl, Lib.hid rfl, (Up.refl w).mk⟩
  case round =>
    obtain ⟨k, hk, rfl, Hk, x0, rfl⟩ := hrel
    by_cases hlt : k < N
    · have hlt' : (k : Int) < (N : Int) := by omega
      have k0 : (0 : Int) ≤ (k : Int) := by omega
      obtain ⟨x, hx⟩ : ∃ x, s[k]? = some x := ⟨_, List.getElem?_eq_getElem (by rw [HN.out]; exact hlt)⟩
      obtain ⟨b, o, rfl, hbw, c0, c1⟩ := Hc.out k x hx _ _ _ rfl
      haveI : LtSize b w := ⟨hbw⟩
      have hC := hcl x
      have Hx := Lib.hid hx
      have Ht := Lib.hid (show hasS (s.take (k + 1)) m = spIn x m by rw [List.take_add_one, hx, hasS_app, Hk.out]; simp [hasS])
      clear hx hcl
      cases hE : spIn x m
      · rw [hE] at hC Ht
        clear hE
        go_wp2_with (go_at_call 57; refine (hC _ inferInstance).mono ?_; clear hC; rintro e w' ⟨rfl, z, rfl⟩)
        go_roundw
        case rel => exact ⟨k + 1, by omega, by go_num, Ht, mkI⟩
        case measure => simp [intOf]; omega
      · rw [hE] at hC
        have HE := Lib.hid (show hasS s m = true from List.any_eq_true.2 ⟨x, List.mem_of_getElem? Hx.out, hE⟩)
        clear hE
        go_wp2_with (go_at_call 57; refine (hC _ inferInstance).mono ?_; clear hC; rintro e w' ⟨rfl, z, rfl⟩)
        go_ret
        exact ⟨⟨_, rfl, by rw [HE.out]; simp⟩, mkI⟩
    · obtain rfl : k = N := by omega
      have HE := Lib.hid (show hasS s m = false by rw [← Hk.out, List.take_of_length_le (by rw [HN.out]; exact Nat.le_refl _)])
      go_wp2_with fail
      go_ret
      exact ⟨⟨_, rfl, by rw [HE.out]; rfl⟩, mkI⟩
set_option maxHeartbeats 16000000 in
theorem spcontains_any (s : List Sp) (m : Int) (cb : Nat) (v : Value) (w : World) (hcb : w.cell? ⟨cb, 0, none⟩ = some (.int .u32 m)) (hv : SpRow w v s) (hl : s.length ≤ 1000000000) :
    Gives Tryz.prog 56 #[v, .func (.func 57) #[] #[.pointer (some ⟨cb, 0, none⟩)]] w (.bool (hasS s m)) := by
  have h := spindex_any s m cb v w hcb hv hl
  clear hcb hv hl
  unfold Gives
  go_enter Tryz.func56, Tryz.ntmps56
  go_wp2_with (go_at_call 89; refine h.mono ?_; clear h; rintro e w' ⟨⟨n, rfl, Hn⟩, x, rfl⟩)
  go_ret
  exact ⟨rfl, mkI⟩
set_option maxHeartbeats 16000000 in
theorem sphas_any (s : List Sp) (m : Int) (v : Value) (w : World) (hv : SpRow w v s) (hl : s.length ≤ 1000000000) : Gives Tryz.prog 25 #[v, .int .u32 m] w (.bool (hasS s m)) := by
  have h := spcontains_any s m w.heap.size v (w.alloc (.cells #[.int .u32 m] 37)) (by simp) (hv.up ((Up.refl w).alloc _)) hl
  clear hv hl
  unfold Gives
  go_enter Tryz.func25, Tryz.ntmps25
  go_wp2_with (go_at_call 56; refine h.mono ?_; clear h; rintro e w' ⟨rfl, x, rfl⟩)
  go_ret
  exact ⟨rfl, mkI⟩
theorem splus_any (p q : Bool) (w : World) : Gives Tryz.prog 36 #[.bool p, .bool q] w (.bool (p || q)) := by
  unfold Gives
  cases p <;> (go_enter Tryz.func36, Tryz.ntmps36; go_wp2; go_ret; exact ⟨rfl, mkI⟩)
theorem spboth_any (p q : Bool) (w : World) : Gives Tryz.prog 37 #[.bool p, .bool q] w (.bool (p && q)) := by
  unfold Gives
  cases p <;> (go_enter Tryz.func37, Tryz.ntmps37; go_wp2; go_ret; exact ⟨rfl, mkI⟩)
theorem spminus_any (p q : Bool) (w : World) : Gives Tryz.prog 38 #[.bool p, .bool q] w (.bool (p && !q)) := by
  unfold Gives
  cases p <;> (go_enter Tryz.func38, Tryz.ntmps38; go_wp2; go_ret; exact ⟨rfl, mkI⟩)
theorem spnot_any (p q : Bool) (w : World) : Gives Tryz.prog 39 #[.bool p, .bool q] w (.bool (!p)) := by
  unfold Gives
  go_enter Tryz.func39, Tryz.ntmps39; go_wp2; go_ret; exact ⟨rfl, mkI⟩
end Go.Proofs.YtgfkcbflnkpogaaGreatDoor
