/- SpanNext, walked. -/
import Derived.Test.YtgfkcbflnkpogaaGreatDoorSp16
set_option linter.unusedSimpArgs false
set_option linter.unusedVariables false
namespace Go.Proofs.YtgfkcbflnkpogaaGreatDoor
open Go.RowKit Go.Ab
attribute [local go_sem high] wrapU32 wrapI64 wrapK64
theorem hasS_last {a : List Sp} {n : Int} (hr : rightS a = true) (h : ∀ m, n ≤ m → hasS a m = false) {x : Sp} (hx : x ∈ a) : x.2 < n := by
  by_cases c : x.2 < n
  · exact c
  · have := h x.2 (by omega)
    rw [hasS_mem hx (rF_le hr x hx) (Int.le_refl _)] at this
    cases this
theorem one_row (W : World) (x : Sp) : SpRow (W.alloc (.cells #[.int .u32 x.1, .int .u32 x.2] 39)) (.slice (some ⟨W.heap.size, 0, none⟩) 1 1) [x] := by
  exact RowOf.of_block (cells := spCells) (k := 2) (fun x => rfl) (l := [x]) (b := W.heap.size) (t := 39) (fz := (0, 0)) (by rw [alloc_get, if_pos rfl]; rfl) (Nat.le_refl _)
set_option maxHeartbeats 64000000 in
set_option maxRecDepth 100000 in
theorem snext_any (l : List SPc) (n : Int) (vl : Value) (w : World) (g : Good w) (rl : PcRow w vl l) (bl : ∀ x ∈ l, SPcB x) (ll : l.length ≤ 9223372036854775807) (n0 : 0 ≤ n) (n1 : n < 4294967296) :
    Gives Tryz.prog 6 #[vl, .int .u32 n] w (.bool true) := by
  have m1 := fun (W : World) (u : UpI w W) => made_row l vl W (rl.up u.up) bl ll
  have ha := RS.made bl
  obtain ⟨pl, cl, hvl, _⟩ := rl
  have Hvl := Lib.hid hvl
  clear bl hvl
  generalize madeS l = a at *
  have Ha := Lib.hid ha
  have la := ha.l
  have ok := nextL_ok a n
  have bd := nextL_bd a n n0 ha.b n1
  have cn := fun (v : Value) (W : World) (h : SpRow W v a) => spnext_any a n v W h ha.b n0 n1 (by omega)
  have ch := fun (m : Int) (q : Bool) (hq : hasS a m = q) (v : Value) (W : World) (h : SpRow W v a) => (sphas_any a m v W h (by omega)).cast (v := .bool q) (congrArg Value.bool hq)
  obtain ⟨⟨x, q⟩, hxq⟩ : ∃ y, nextL a n = y := ⟨_, rfl⟩
  rw [hxq] at ok bd cn
  simp only at bd cn
  obtain ⟨x0, x1⟩ := bd
  cases q
  · obtain ⟨hx, hno⟩ := ok.no rfl
    simp only at hx
    subst hx
    have Hno := Lib.hid hno
    have Hlast := Lib.hid (fun (x : Sp) (h : x ∈ a) => hasS_last ha.r hno h)
    clear ok hxq ha hno ch
    unfold Gives
    go_enter Tryz.func6, Tryz.ntmps6
    have e0 : a = [] ∨ a ≠ [] := by by_cases c : a = [] <;> simp [c]
    rcases e0 with e0 | e0
    · subst e0
      go_wp2_with (first
        | (go_at_call 11; refine (spawake_any _ g).mono ?_; rintro e w' ⟨rfl, x0, rfl⟩)
        | (go_at_call 12; (with_reducible refine (m1 x0.w inferInstance).mono ?_); clear m1; rintro e w' ⟨pa, ca, rfl, Ra, xa, rfl⟩)
        | (go_at_call 24; refine (cn _ xa.w Ra.out).mono ?_; clear cn; rintro e w' ⟨rfl, xn, rfl⟩))
      all_goals (go_ret; exact ⟨rfl, mkI⟩)
    · obtain ⟨L, hL⟩ : ∃ L, a.length = L + 1 := ⟨a.length - 1, by have := List.length_pos_iff.2 e0; omega⟩
      obtain ⟨y, hy⟩ : ∃ y, a[L]? = some y := ⟨_, List.getElem?_eq_getElem (by omega)⟩
      have hyn := Hlast.out y (List.mem_of_getElem? hy)
      have Hy := Lib.hid hy
      have HL := Lib.hid hL
      clear hy hL e0 Hlast Hno
      have cn' := fun (v : Value) (W : World) (h : SpRow W v a) => cn v W h
      simp only [HL.out] at m1 la
      haveI : In64 (((L + 1 : Nat) : Int) - 1) := ⟨by omega⟩
      have t0 : (((L + 1 : Nat) : Int) == 0) = false := by simp; omega
      have t1 : decide (y.2 < n) = true := by simpa using hyn
      have k0 : (0 : Int) ≤ ((L + 1 : Nat) : Int) - 1 := by omega
      have k1 : ((L + 1 : Nat) : Int) - 1 < ((L + 1 : Nat) : Int) := by omega
      have k2 : (((L + 1 : Nat) : Int) - 1).toNat = L := by omega
      go_wp2_with (first
        | (go_at_call 11; refine (spawake_any _ g).mono ?_; rintro e w' ⟨rfl, x0, rfl⟩)
        | (go_at_call 12; (with_reducible refine (m1 x0.w inferInstance).mono ?_); clear m1; rintro e w' ⟨pa, ca, rfl, Ra, xa, rfl⟩
           obtain ⟨b, o, rfl, hb, q0, q1⟩ := sp_at Ra.out rfl Hy.out)
        | (go_at_call 24; refine (cn _ xa.w Ra.out).mono ?_; clear cn; rintro e w' ⟨rfl, xn, rfl⟩))
      all_goals (go_ret; exact ⟨rfl, mkI⟩)
  · obtain ⟨hx, hhas, hno⟩ := ok.yes rfl
    simp only at hx hhas hno
    have c1 := ch x true hhas
    have Hno := Lib.hid hno
    by_cases c : n < x
    · have c2 := ch n false (hno n (Int.le_refl _) c)
      have hg : commonL a [(n, x - 1)] = [] := common_gap ha.r ha.b n0 (by omega) (fun m h0 h1 => hno m h0 (by omega))
      have h1 : RS 1 [(n, x - 1)] := ⟨rF_cons.2 ⟨n0, by simp only; omega, rfl⟩, fun y hy => by rw [List.mem_singleton.1 hy]; exact ⟨by simp only; omega, by simp only; omega, by simp only; omega, by simp only; omega⟩, by simp⟩
      have cc := fun (v : Value) (W X : World) (hX : X = W.alloc (.cells #[.int .u32 n, .int .u32 (x - 1)] 39)) (h : SpRow X v a) => hg ▸ common_row a [(n, x - 1)] v (.slice (some ⟨W.heap.size, 0, none⟩) 1 1) X h (hX ▸ one_row W (n, x - 1)) ha h1 (by decide) (by decide)
      have t0 : decide (x < n) = false := by simp; omega
      have t1 : decide (n < x) = true := by simpa using c
      have t2 : decide (x > n) = true := by simpa using c
      haveI : InU32 (x - 1) := ⟨by omega⟩
      clear ok hxq ha hno ch hg h1 hhas
      unfold Gives
      go_enter Tryz.func6, Tryz.ntmps6
      go_wp2_with (first
        | (go_at_call 11; refine (spawake_any _ g).mono ?_; rintro e w' ⟨rfl, x0, rfl⟩)
        | (go_at_call 12; (with_reducible refine (m1 x0.w inferInstance).mono ?_); clear m1; rintro e w' ⟨pa, ca, rfl, Ra, xa, rfl⟩)
        | (go_at_call 24; refine (cn _ xa.w Ra.out).mono ?_; clear cn; rintro e w' ⟨rfl, xn, rfl⟩)
        | (go_at_call 25; refine (c1 _ xn.w (Ra.out.up upI)).mono ?_; clear c1; rintro e w' ⟨rfl, xh, rfl⟩)
        | (go_at_call 25; refine (c2 _ xh.w (Ra.out.up upI)).mono ?_; clear c2; rintro e w' ⟨rfl, xi, rfl⟩)
        | (go_at_call 14; (with_reducible refine Calls.mono (cc _ xi.w _ rfl (Ra.out.up upI)) ?_); clear cc; rintro e w' ⟨pc, cc, rfl, Rc, xc, rfl⟩))
      all_goals (go_ret; exact ⟨rfl, mkI⟩)
    · have e : x = n := by omega
      subst e
      have t0 : decide (x < x) = false := by simp
      clear ok hxq ha hno ch hhas
      unfold Gives
      go_enter Tryz.func6, Tryz.ntmps6
      go_wp2_with (first
        | (go_at_call 11; refine (spawake_any _ g).mono ?_; rintro e w' ⟨rfl, x0, rfl⟩)
        | (go_at_call 12; (with_reducible refine (m1 x0.w inferInstance).mono ?_); clear m1; rintro e w' ⟨pa, ca, rfl, Ra, xa, rfl⟩)
        | (go_at_call 24; refine (cn _ xa.w Ra.out).mono ?_; clear cn; rintro e w' ⟨rfl, xn, rfl⟩)
        | (go_at_call 25; refine (c1 _ xn.w (Ra.out.up upI)).mono ?_; clear c1; rintro e w' ⟨rfl, xh, rfl⟩))
      all_goals (go_ret; exact ⟨rfl, mkI⟩)
end Go.Proofs.YtgfkcbflnkpogaaGreatDoor
