/- Package dump: two dumps gone through together: the iterator. Package dump: the iterator's value; its pairs without addresses; what a walk over them gives. -/
import Derived.Test.YtlbbepgfjigjpaaGreatDoorDE
import Derived.Test.YtlbbepgfjigjpaaGreatDoorCover
import Derived.Test.YtlbbepgfjigjpaaGreatDoorEqCh
import Derived.Test.YtlbbepgfjigjpaaGreatDoorDiff
namespace Go.Ab
open Go.RowKit Go.Proofs.YtlbbepgfjigjpaaGreatDoor
abbrev LA := Ln × Addr
abbrev PR := Option LA × Option LA
def encP (x : PR) : Array Value := #[.pointer (x.1.map Prod.snd), .pointer (x.2.map Prod.snd)]
def pairsP : Nat → List LA → List LA → List PR
  | 0, _, _ => []
  | _ + 1, [], [] => []
  | n + 1, a :: us, [] => (some a, none) :: pairsP n us []
  | n + 1, [], b :: vs => (none, some b) :: pairsP n [] vs
  | n + 1, a :: us, b :: vs => if a.1.cmp b.1 < 0 then (some a, none) :: pairsP n us (b :: vs) else if 0 < a.1.cmp b.1 then (none, some b) :: pairsP n (a :: us) vs else (some a, some b) :: pairsP n us vs
def RowP (n0 : Nat) (W : World) (p : Option Addr) (us : List LA) : Prop :=
  ∀ i x ad, us[i]? = some (x, ad) → ∃ b o, p = some ⟨b, o, none⟩ ∧ ad = ⟨b, o + i * 11, none⟩ ∧ b < n0 ∧ LnB x ∧ ∀ j u, x.cells[j]? = some u → W.cell? ⟨b, o + i * 11 + j, none⟩ = some u
theorem RowP.kept {n0 : Nat} {W W' : World} {p : Option Addr} {us : List LA} {kp : Nat → Prop} (h : RowP n0 W p us) (k : Kept kp W W') (hk : ∀ b, b < n0 → kp b) : RowP n0 W' p us := by
  intro i x ad hi
  obtain ⟨b, o, h1, h2, h3, h4, h5⟩ := h i x ad hi
  exact ⟨b, o, h1, h2, h3, h4, fun j u hu => k.cell (h5 j u hu) (hk b h3)⟩
theorem RowP.tail {n0 : Nat} {W : World} {b o : Nat} {u : LA} {us : List LA} (h : RowP n0 W (some ⟨b, o, none⟩) (u :: us)) : RowP n0 W (some ⟨b, o + 11, none⟩) us := by
  intro i x ad hi
  obtain ⟨b', o', h1, h2, h3, h4, h5⟩ := h (i + 1) x ad (by simpa using hi)
  simp only [Option.some.injEq, Addr.mk.injEq, and_true] at h1
  obtain ⟨rfl, rfl⟩ := h1
  refine ⟨b, o + 11, rfl, by rw [h2, Nat.succ_mul]; congr 1; omega, h3, h4, fun j u hu => ?_⟩
  have := h5 j u hu
  rwa [show o + 11 + i * 11 + j = o + (i + 1) * 11 + j by omega]
def cutP (cap b o : Nat) : Option Addr := if cap = 1 then some ⟨b, o, none⟩ else some ⟨b, o + 11, none⟩
theorem RowP.cut {n0 cap : Nat} {W : World} {b o : Nat} {u : LA} {us : List LA} (h : RowP n0 W (some ⟨b, o, none⟩) (u :: us)) (hc : us.length + 1 ≤ cap) : RowP n0 W (cutP cap b o) us := by
  unfold cutP
  by_cases h1 : cap = 1
  · have h0 : us = [] := List.length_eq_zero_iff.1 (by omega)
    subst h0
    exact fun i x ad hi => by simp at hi
  · rw [if_neg h1]; exact h.tail
/-- A box that holds a slice of lines in old memory. -/
structure BoxR (n0 : Nat) (W : World) (B : Nat) (us : List LA) (p : Option Addr) (cap : Nat) : Prop where
  c : W.cell? ⟨B, 0, none⟩ = some (.slice p us.length cap)
  f : W.frozen? ⟨B, 0, none⟩ = false
  le : us.length ≤ cap
  row : RowP n0 W p us
theorem BoxR.kept {n0 : Nat} {W W' : World} {B : Nat} {us : List LA} {p : Option Addr} {cap : Nat} {kp : Nat → Prop} (h : BoxR n0 W B us p cap) (k : Kept kp W W') (hk : ∀ b, b < n0 → kp b) (hB : kp B) : BoxR n0 W' B us p cap :=
  ⟨k.cell h.c hB, (k.frozen h.c hB).trans h.f, h.le, h.row.kept k hk⟩
def lenAt (W : World) (B : Nat) : Nat := match W.cell? ⟨B, 0, none⟩ with | some (.slice _ n _) => n | _ => 0
theorem lenAt_of {n0 : Nat} {W : World} {B : Nat} {us : List LA} {p : Option Addr} {cap : Nat} (h : BoxR n0 W B us p cap) : lenAt W B = us.length := by unfold lenAt; rw [h.c]
def kpP (n0 bA bB : Nat) : Nat → Nat → Prop := fun _ k => k < n0 ∨ k = bA ∨ k = bB
def ownP (bA bB : Nat) : Nat → Nat → Prop := fun _ k => k = bA ∨ k = bB
end Go.Ab
namespace Go.Proofs.YtlbbepgfjigjpaaGreatDoor
open Go.RowKit Go.Ab
attribute [local go_sem] Oper.semAt_some
set_option maxHeartbeats 32000000 in
set_option maxRecDepth 100000 in
theorem pairs_seq (n0 bA bB N : Nat) (la lb : List LA) (hAB : bA ≠ bB) (hA : n0 ≤ bA) (hB : n0 ≤ bB) (hN : la.length + lb.length ≤ N) (hNs : N ≤ 2000000) :
    SeqUpK Tryz.prog 56 #[.pointer (some ⟨bA, 0, none⟩), .pointer (some ⟨bB, 0, none⟩)] encP (fun xs => xs = pairsP N la lb) (fun pre => pre <+: pairsP N la lb) (ownP bA bB) (kpP n0 bA bB)
      (fun W => (∃ p cap, BoxR n0 W bA la p cap) ∧ ∃ q cap, BoxR n0 W bB lb q cap) := by
  intro l J Jx W hK hJ hJx hY h0
  obtain ⟨hKA, hKB⟩ := hK
  have Tot : Hid (∃ T, pairsP N la lb = T) := ⟨_, rfl⟩
  obtain ⟨T, hT⟩ := Tot
  rw [hT] at hY ⊢
  have HT0 := Lib.hid (show [] ++ pairsP N la lb = T from hT)
  clear hT
  go_enter Tryz.func56, Tryz.ntmps56
  go_wp2_with fail
  go_loopw [4] (fun _ wr => ∃ (n : Nat) (pre : List PR) (us vs : List LA), us.length + vs.length ≤ n ∧ n ≤ 2000000 ∧ Hid (pre ++ pairsP n us vs = T) ∧ J pre wr ∧ (∃ p cap, BoxR n0 wr bA us p cap) ∧ ∃ q cap, BoxR n0 wr bB vs q cap) (fun _ wr => lenAt wr bA + lenAt wr bB)
  case atStart => exact ⟨N, [], la, lb, hN, hNs, HT0, h0, hKA, hKB⟩
  case round =>
    clear HT0 hKA hKB h0 hN hNs
    obtain ⟨n, pre, us, vs, hn, hns, Hk, hj, ⟨p, capA, bxA⟩, q, capB, bxB⟩ := hrel
    have hmA : lenAt wr bA = us.length := by unfold lenAt; rw [bxA.c]
    have hmB : lenAt wr bB = vs.length := by unfold lenAt; rw [bxB.c]
    have HMA := Lib.hid hmA
    have HMB := Lib.hid hmB
    have cA := bxA.c; have fA := bxA.f; have lA := bxA.le
    have cB := bxB.c; have fB := bxB.f; have lB := bxB.le
    haveI : LtSize bA wr := ⟨cell_lt cA⟩
    haveI : LtSize bB wr := ⟨cell_lt cB⟩
    haveI : NeB bA bB := ⟨hAB⟩
    haveI : NeB bB bA := ⟨fun e => hAB e.symm⟩
    clear hmA hmB
    obtain ⟨m, rfl⟩ | hz : (∃ m, n = m + 1) ∨ n = 0 := by cases n with | zero => exact .inr rfl | succ m => exact .inl ⟨m, rfl⟩
    rotate_left
    · subst hz
      obtain rfl : us = [] := List.length_eq_zero_iff.1 (by omega)
      obtain rfl : vs = [] := List.length_eq_zero_iff.1 (by omega)
      simp only [List.length_nil] at cA cB
      go_wp2_with fail
      go_end0
      exact ⟨⟨_, rfl⟩, .inl ⟨pre, by rw [← Hk.out]; simp [pairsP], hj⟩⟩
    cases us with
    | nil =>
      cases vs with
      | nil =>
        simp only [List.length_nil] at cA cB
        go_wp2_with fail
        go_end0
        exact ⟨⟨_, rfl⟩, .inl ⟨pre, by rw [← Hk.out]; simp [pairsP], hj⟩⟩
      | cons b vs =>
        obtain ⟨bb, ob, hpb, hadb, hbb, hxb, hccb⟩ := bxB.row 0 b.1 b.2 rfl
        subst hpb
        have HRB := Lib.hid (bxB.row.cut (cap := capB) (by have := bxB.le; simp at this; omega))
        have Ab0 : b.2 = ⟨bb, ob, none⟩ := by rw [hadb]; simp
        obtain ⟨nB, hnB⟩ : ∃ nB, (b :: vs).length = nB := ⟨_, rfl⟩
        rw [hnB] at cB lB
        have HNB := Lib.hid hnB
        have nB1 : 1 ≤ nB := by rw [← hnB]; simp
        have nB2 : nB ≤ 2000000 := by rw [← hnB]; simp at hn ⊢; omega
        have eB : ((nB : Int) == 0) = false := by rw [beq_eq_false_iff_ne]; omega
        clear hnB hadb
        simp only [List.length_nil] at cA lA
        have HM1 := Lib.hid (show ([] : List LA).length + vs.length ≤ m by simp at hn ⊢; omega)
        have HM2 := Lib.hid (show ([] : List LA).length + vs.length < ([] : List LA).length + (b :: vs).length by simp only [List.length_cons]; omega)
        have Hk2 := Lib.hid (show (pre ++ [(none, some b)]) ++ pairsP m ([] : List LA) vs = T by rw [← Hk.out, pairsP]; simp)
        have Hpre : Hid ((pre ++ [(none, some b)]) <+: T) := Lib.hid ⟨_, Hk2.out⟩
        go_upto_region 15 with fail
        refine wp_letter (fun W15 => J pre W15 ∧ (∃ p cap, BoxR n0 W15 bA [] p cap) ∧ ∃ q cap, BoxR n0 W15 bB vs q cap) ⟨hJ _ _ _ hj (Turn.of_setCell _ _ _ (.inr rfl)), ⟨p, capA, ⟨by simp [go_sem, cA], by simp [go_sem, fA], Nat.zero_le _, fun i x ad h => by simp at h⟩⟩, cutP capB bb ob, capB - 1, ⟨by have := HNB.out; simp at this; unfold cutP; simp [go_sem, cB, ← this], by simp [go_sem, fB], by have := HNB.out; simp at this; omega, HRB.out.kept ((Kept.refl (fun k => k < n0) wr).setCell (by simp; omega) _) (fun _ h => h)⟩⟩ ?_
        rintro W15 ⟨hj15, ⟨pA2, cA2, bxA2⟩, qB2, cB2, bxB2⟩
        obtain ⟨fn, tmps, assign, body, hy, hR⟩ := hY pre (none, some b) W15 hj15 Hpre.out
        rw [show encP (none, some b) = #[.pointer none, .pointer (some ⟨bb, ob, none⟩)] by unfold encP; simp [Ab0]] at hy
        change (Instr.yield l #[.pointer none, .pointer (some ⟨bb, ob, none⟩)]).run Tryz.prog W15 = _ at hy
        have Hy := Lib.hid hy
        have HR := Lib.hid hR
        clear hR hY
        refine (wpIn_wide (n := 0)).1 ?_
        gi_wp2_with fail
        all_goals
          refine ⟨rfl, HR.out.mono ?_⟩
          rintro e' W' (⟨rfl, hJ', hk⟩ | ⟨rfl, hJx'⟩)
          · have bA2 := bxA2.kept hk (fun _ h => .inl h) (.inr (.inl rfl))
            have bB2 := bxB2.kept hk (fun _ h => .inl h) (.inr (.inr rfl))
            have H1 := Lib.hid bA2
            have H2 := Lib.hid bB2
            have HJ := Lib.hid hJ'
            clear bA2 bB2 hJ' hk bxA2 bxB2 hj15
            gi_wp2_with fail
            go_wp2_with fail
            exact ⟨⟨m, pre ++ [(none, some b)], [], vs, HM1.out, by omega, Hk2, HJ.out, ⟨_, _, H1.out⟩, _, _, H2.out⟩, by rw [HMA.out, HMB.out, lenAt_of H1.out, lenAt_of H2.out]; exact HM2.out⟩
          · gi_wp2_with fail
            go_wp2_with fail
            (try simp only [Exit.inBlock, Exit.then])
            refine bodyPost_ret (results_none rfl _ _ _) rfl ?_
            exact ⟨⟨_, rfl⟩, .inr ⟨_, hJx'⟩⟩
    | cons a us =>
      cases vs with
      | nil =>
        obtain ⟨ba, oa, hpa, hada, hba, hxa, hcca⟩ := bxA.row 0 a.1 a.2 rfl
        subst hpa
        have HRA := Lib.hid (bxA.row.cut (cap := capA) (by have := bxA.le; simp at this; omega))
        have Aa0 : a.2 = ⟨ba, oa, none⟩ := by rw [hada]; simp
        obtain ⟨nA, hnA⟩ : ∃ nA, (a :: us).length = nA := ⟨_, rfl⟩
        rw [hnA] at cA lA
        have HNA := Lib.hid hnA
        have nA1 : 1 ≤ nA := by rw [← hnA]; simp
        have nA2 : nA ≤ 2000000 := by rw [← hnA]; simp at hn ⊢; omega
        have eA : ((nA : Int) == 0) = false := by rw [beq_eq_false_iff_ne]; omega
        clear hnA hada
        simp only [List.length_nil] at cB lB
        have HM1 := Lib.hid (show us.length + ([] : List LA).length ≤ m by simp at hn ⊢; omega)
        have HM2 := Lib.hid (show us.length + ([] : List LA).length < (a :: us).length + ([] : List LA).length by simp only [List.length_cons, List.length_nil]; omega)
        have Hk2 := Lib.hid (show (pre ++ [(some a, none)]) ++ pairsP m us ([] : List LA) = T by rw [← Hk.out, pairsP]; simp)
        have Hpre : Hid ((pre ++ [(some a, none)]) <+: T) := Lib.hid ⟨_, Hk2.out⟩
        go_upto_region 15 with fail
        refine wp_letter (fun W15 => J pre W15 ∧ (∃ p cap, BoxR n0 W15 bA us p cap) ∧ ∃ q cap, BoxR n0 W15 bB [] q cap) ⟨hJ _ _ _ hj (Turn.of_setCell _ _ _ (.inl rfl)), ⟨cutP capA ba oa, capA - 1, ⟨by have := HNA.out; simp at this; unfold cutP; simp [go_sem, cA, ← this], by simp [go_sem, fA], by have := HNA.out; simp at this; omega, HRA.out.kept ((Kept.refl (fun k => k < n0) wr).setCell (by simp; omega) _) (fun _ h => h)⟩⟩, q, capB, ⟨by simp [go_sem, cB], by simp [go_sem, fB], Nat.zero_le _, fun i x ad h => by simp at h⟩⟩ ?_
        rintro W15 ⟨hj15, ⟨pA2, cA2, bxA2⟩, qB2, cB2, bxB2⟩
        obtain ⟨fn, tmps, assign, body, hy, hR⟩ := hY pre (some a, none) W15 hj15 Hpre.out
        rw [show encP (some a, none) = #[.pointer (some ⟨ba, oa, none⟩), .pointer none] by unfold encP; simp [Aa0]] at hy
        change (Instr.yield l #[.pointer (some ⟨ba, oa, none⟩), .pointer none]).run Tryz.prog W15 = _ at hy
        have Hy := Lib.hid hy
        have HR := Lib.hid hR
        clear hR hY
        refine (wpIn_wide (n := 0)).1 ?_
        gi_wp2_with fail
        all_goals
          refine ⟨rfl, HR.out.mono ?_⟩
          rintro e' W' (⟨rfl, hJ', hk⟩ | ⟨rfl, hJx'⟩)
          · have bA2 := bxA2.kept hk (fun _ h => .inl h) (.inr (.inl rfl))
            have bB2 := bxB2.kept hk (fun _ h => .inl h) (.inr (.inr rfl))
            have H1 := Lib.hid bA2
            have H2 := Lib.hid bB2
            have HJ := Lib.hid hJ'
            clear bA2 bB2 hJ' hk bxA2 bxB2 hj15
            gi_wp2_with fail
            go_wp2_with fail
            exact ⟨⟨m, pre ++ [(some a, none)], us, [], HM1.out, by omega, Hk2, HJ.out, ⟨_, _, H1.out⟩, _, _, H2.out⟩, by rw [HMA.out, HMB.out, lenAt_of H1.out, lenAt_of H2.out]; exact HM2.out⟩
          · gi_wp2_with fail
            go_wp2_with fail
            (try simp only [Exit.inBlock, Exit.then])
            refine bodyPost_ret (results_none rfl _ _ _) rfl ?_
            exact ⟨⟨_, rfl⟩, .inr ⟨_, hJx'⟩⟩
      | cons b vs =>
        have HFA := Lib.hid bxA.row
        have HFB := Lib.hid bxB.row
        obtain ⟨ba, oa, hpa, hada, hba, hxa, hcca⟩ := bxA.row 0 a.1 a.2 rfl
        subst hpa
        have HRA := Lib.hid (bxA.row.cut (cap := capA) (by have := bxA.le; simp at this; omega))
        have Aa0 : a.2 = ⟨ba, oa, none⟩ := by rw [hada]; simp
        obtain ⟨nA, hnA⟩ : ∃ nA, (a :: us).length = nA := ⟨_, rfl⟩
        rw [hnA] at cA lA
        have HNA := Lib.hid hnA
        have nA1 : 1 ≤ nA := by rw [← hnA]; simp
        have nA2 : nA ≤ 2000000 := by rw [← hnA]; simp at hn ⊢; omega
        have eA : ((nA : Int) == 0) = false := by rw [beq_eq_false_iff_ne]; omega
        clear hnA hada
        obtain ⟨bb, ob, hpb, hadb, hbb, hxb, hccb⟩ := bxB.row 0 b.1 b.2 rfl
        subst hpb
        have HRB := Lib.hid (bxB.row.cut (cap := capB) (by have := bxB.le; simp at this; omega))
        have Ab0 : b.2 = ⟨bb, ob, none⟩ := by rw [hadb]; simp
        obtain ⟨nB, hnB⟩ : ∃ nB, (b :: vs).length = nB := ⟨_, rfl⟩
        rw [hnB] at cB lB
        have HNB := Lib.hid hnB
        have nB1 : 1 ≤ nB := by rw [← hnB]; simp
        have nB2 : nB ≤ 2000000 := by rw [← hnB]; simp at hn ⊢; omega
        have eB : ((nB : Int) == 0) = false := by rw [beq_eq_false_iff_ne]; omega
        clear hnB hadb
        have ka0 := hcca 0 _ rfl
        have ka1 := hcca 1 _ rfl
        have ka2 := hcca 2 _ rfl
        have ka3 := hcca 3 _ rfl
        have ka4 := hcca 4 _ rfl
        simp only [Nat.zero_mul, Nat.add_zero] at ka0 ka1 ka2 ka3 ka4
        have kb0 := hccb 0 _ rfl
        have kb1 := hccb 1 _ rfl
        have kb2 := hccb 2 _ rfl
        have kb3 := hccb 3 _ rfl
        have kb4 := hccb 4 _ rfl
        simp only [Nat.zero_mul, Nat.add_zero] at kb0 kb1 kb2 kb3 kb4
        haveI : LtSize ba wr := ⟨cell_lt ka0⟩
        haveI : LtSize bb wr := ⟨cell_lt kb0⟩
        obtain ⟨C, hC⟩ : ∃ C, a.1.cmp b.1 = C := ⟨_, rfl⟩
        have hcm := fun w => cmpK a.1.pr a.1.s a.1.d a.1.sp a.1.dp b.1.pr b.1.s b.1.d b.1.sp b.1.dp C w hxa.key hxb.key (Lib.hid hC)
        clear hcca hccb
        by_cases hC0 : C < 0
        · skip
          have HM1 := Lib.hid (show us.length + (b :: vs).length ≤ m by simp at hn ⊢; omega)
          have HM2 := Lib.hid (show us.length + (b :: vs).length < (a :: us).length + (b :: vs).length by simp only [List.length_cons]; omega)
          have Hk2 := Lib.hid (show (pre ++ [(some a, none)]) ++ pairsP m us (b :: vs) = T by rw [← Hk.out, pairsP, hC, if_pos hC0]; simp)
          have Hpre : Hid ((pre ++ [(some a, none)]) <+: T) := Lib.hid ⟨_, Hk2.out⟩
          clear hC
          go_upto_region 2 with fail
          (refine wp_region_ext (by kernel_rfl) (by kernel_rfl) ?_; (repeat (go_big_quiet_step ((go_at_call 55; exact (hcm _).ext)))); refine wpQuiet_nil ?_; rintro _ ⟨y, rfl⟩)
          go_upto_region 15 with fail
          refine wp_letter (fun W15 => J pre W15 ∧ (∃ p cap, BoxR n0 W15 bA us p cap) ∧ ∃ q cap, BoxR n0 W15 bB (b :: vs) q cap) ⟨(hJ _ _ _ (hJ _ _ _ hj (Turn.of_up y.up)) (Turn.of_setCell _ _ _ (.inl rfl))), ⟨cutP capA ba oa, capA - 1, ⟨by have := HNA.out; simp at this; unfold cutP; simp [go_sem, cA, ← this], by simp [go_sem, fA], by have := HNA.out; simp at this; omega, HRA.out.kept (((Kept.refl (fun k => k < n0) wr).up y.up).setCell (by simp; omega) _) (fun _ h => h)⟩⟩, _, capB, ⟨by have := HNB.out; simp at this; simp [go_sem, cB, ← this], by simp [go_sem, fB], by rw [HNB.out]; exact lB, HFB.out.kept (((Kept.refl (fun k => k < n0) wr).up y.up).setCell (by simp; omega) _) (fun _ h => h)⟩⟩ ?_
          rintro W15 ⟨hj15, ⟨pA2, cA2, bxA2⟩, qB2, cB2, bxB2⟩
          obtain ⟨fn, tmps, assign, body, hy, hR⟩ := hY pre (some a, none) W15 hj15 Hpre.out
          rw [show encP (some a, none) = #[.pointer (some ⟨ba, oa, none⟩), .pointer none] by unfold encP; simp [Aa0]] at hy
          change (Instr.yield l #[.pointer (some ⟨ba, oa, none⟩), .pointer none]).run Tryz.prog W15 = _ at hy
          have Hy := Lib.hid hy
          have HR := Lib.hid hR
          clear hR hY
          refine (wpIn_wide (n := 0)).1 ?_
          gi_wp2_with fail
          all_goals
            refine ⟨rfl, HR.out.mono ?_⟩
            rintro e' W' (⟨rfl, hJ', hk⟩ | ⟨rfl, hJx'⟩)
            · have bA2 := bxA2.kept hk (fun _ h => .inl h) (.inr (.inl rfl))
              have bB2 := bxB2.kept hk (fun _ h => .inl h) (.inr (.inr rfl))
              have H1 := Lib.hid bA2
              have H2 := Lib.hid bB2
              have HJ := Lib.hid hJ'
              clear bA2 bB2 hJ' hk bxA2 bxB2 hj15
              gi_wp2_with fail
              go_wp2_with fail
              exact ⟨⟨m, pre ++ [(some a, none)], us, (b :: vs), HM1.out, by omega, Hk2, HJ.out, ⟨_, _, H1.out⟩, _, _, H2.out⟩, by rw [HMA.out, HMB.out, lenAt_of H1.out, lenAt_of H2.out]; exact HM2.out⟩
            · gi_wp2_with fail
              go_wp2_with fail
              (try simp only [Exit.inBlock, Exit.then])
              refine bodyPost_ret (results_none rfl _ _ _) rfl ?_
              exact ⟨⟨_, rfl⟩, .inr ⟨_, hJx'⟩⟩
        · by_cases hC1 : 0 < C
          · skip
            have HM1 := Lib.hid (show (a :: us).length + vs.length ≤ m by simp at hn ⊢; omega)
            have HM2 := Lib.hid (show (a :: us).length + vs.length < (a :: us).length + (b :: vs).length by simp only [List.length_cons]; omega)
            have Hk2 := Lib.hid (show (pre ++ [(none, some b)]) ++ pairsP m (a :: us) vs = T by rw [← Hk.out, pairsP, hC, if_neg hC0, if_pos hC1]; simp)
            have Hpre : Hid ((pre ++ [(none, some b)]) <+: T) := Lib.hid ⟨_, Hk2.out⟩
            clear hC hC0
            go_upto_region 2 with fail
            (refine wp_region_ext (by kernel_rfl) (by kernel_rfl) ?_; (repeat (go_big_quiet_step ((go_at_call 55; exact (hcm _).ext)))); refine wpQuiet_nil ?_; rintro _ ⟨y, rfl⟩)
            go_upto_region 15 with fail
            refine wp_letter (fun W15 => J pre W15 ∧ (∃ p cap, BoxR n0 W15 bA (a :: us) p cap) ∧ ∃ q cap, BoxR n0 W15 bB vs q cap) ⟨(hJ _ _ _ (hJ _ _ _ hj (Turn.of_up y.up)) (Turn.of_setCell _ _ _ (.inr rfl))), ⟨_, capA, ⟨by have := HNA.out; simp at this; simp [go_sem, cA, ← this], by simp [go_sem, fA], by rw [HNA.out]; exact lA, HFA.out.kept (((Kept.refl (fun k => k < n0) wr).up y.up).setCell (by simp; omega) _) (fun _ h => h)⟩⟩, cutP capB bb ob, capB - 1, ⟨by have := HNB.out; simp at this; unfold cutP; simp [go_sem, cB, ← this], by simp [go_sem, fB], by have := HNB.out; simp at this; omega, HRB.out.kept (((Kept.refl (fun k => k < n0) wr).up y.up).setCell (by simp; omega) _) (fun _ h => h)⟩⟩ ?_
            rintro W15 ⟨hj15, ⟨pA2, cA2, bxA2⟩, qB2, cB2, bxB2⟩
            obtain ⟨fn, tmps, assign, body, hy, hR⟩ := hY pre (none, some b) W15 hj15 Hpre.out
            rw [show encP (none, some b) = #[.pointer none, .pointer (some ⟨bb, ob, none⟩)] by unfold encP; simp [Ab0]] at hy
            change (Instr.yield l #[.pointer none, .pointer (some ⟨bb, ob, none⟩)]).run Tryz.prog W15 = _ at hy
            have Hy := Lib.hid hy
            have HR := Lib.hid hR
            clear hR hY
            refine (wpIn_wide (n := 0)).1 ?_
            gi_wp2_with fail
            all_goals
              refine ⟨rfl, HR.out.mono ?_⟩
              rintro e' W' (⟨rfl, hJ', hk⟩ | ⟨rfl, hJx'⟩)
              · have bA2 := bxA2.kept hk (fun _ h => .inl h) (.inr (.inl rfl))
                have bB2 := bxB2.kept hk (fun _ h => .inl h) (.inr (.inr rfl))
                have H1 := Lib.hid bA2
                have H2 := Lib.hid bB2
                have HJ := Lib.hid hJ'
                clear bA2 bB2 hJ' hk bxA2 bxB2 hj15
                gi_wp2_with fail
                go_wp2_with fail
                exact ⟨⟨m, pre ++ [(none, some b)], (a :: us), vs, HM1.out, by omega, Hk2, HJ.out, ⟨_, _, H1.out⟩, _, _, H2.out⟩, by rw [HMA.out, HMB.out, lenAt_of H1.out, lenAt_of H2.out]; exact HM2.out⟩
              · gi_wp2_with fail
                go_wp2_with fail
                (try simp only [Exit.inBlock, Exit.then])
                refine bodyPost_ret (results_none rfl _ _ _) rfl ?_
                exact ⟨⟨_, rfl⟩, .inr ⟨_, hJx'⟩⟩
          · skip
            have HM1 := Lib.hid (show us.length + vs.length ≤ m by simp at hn ⊢; omega)
            have HM2 := Lib.hid (show us.length + vs.length < (a :: us).length + (b :: vs).length by simp only [List.length_cons]; omega)
            have Hk2 := Lib.hid (show (pre ++ [(some a, some b)]) ++ pairsP m us vs = T by rw [← Hk.out, pairsP, hC, if_neg hC0, if_neg hC1]; simp)
            have Hpre : Hid ((pre ++ [(some a, some b)]) <+: T) := Lib.hid ⟨_, Hk2.out⟩
            have hCz : C = 0 := by omega
            subst hCz
            clear hC hC0 hC1
            go_upto_region 2 with fail
            (refine wp_region_ext (by kernel_rfl) (by kernel_rfl) ?_; (repeat (go_big_quiet_step ((go_at_call 55; exact (hcm _).ext)))); refine wpQuiet_nil ?_; rintro _ ⟨y, rfl⟩)
            go_upto_region 15 with fail
            refine wp_letter (fun W15 => J pre W15 ∧ (∃ p cap, BoxR n0 W15 bA us p cap) ∧ ∃ q cap, BoxR n0 W15 bB vs q cap) ⟨(hJ _ _ _ (hJ _ _ _ (hJ _ _ _ hj (Turn.of_up y.up)) (Turn.of_setCell _ _ _ (.inl rfl))) (Turn.of_setCell _ _ _ (.inr rfl))), ⟨cutP capA ba oa, capA - 1, ⟨by have := HNA.out; simp at this; unfold cutP; simp [go_sem, cA, ← this], by simp [go_sem, fA], by have := HNA.out; simp at this; omega, HRA.out.kept ((((Kept.refl (fun k => k < n0) wr).up y.up).setCell (by simp; omega) _).setCell (by simp; omega) _) (fun _ h => h)⟩⟩, cutP capB bb ob, capB - 1, ⟨by have := HNB.out; simp at this; unfold cutP; simp [go_sem, cB, ← this], by simp [go_sem, fB], by have := HNB.out; simp at this; omega, HRB.out.kept ((((Kept.refl (fun k => k < n0) wr).up y.up).setCell (by simp; omega) _).setCell (by simp; omega) _) (fun _ h => h)⟩⟩ ?_
            rintro W15 ⟨hj15, ⟨pA2, cA2, bxA2⟩, qB2, cB2, bxB2⟩
            obtain ⟨fn, tmps, assign, body, hy, hR⟩ := hY pre (some a, some b) W15 hj15 Hpre.out
            rw [show encP (some a, some b) = #[.pointer (some ⟨ba, oa, none⟩), .pointer (some ⟨bb, ob, none⟩)] by unfold encP; simp [Aa0, Ab0]] at hy
            change (Instr.yield l #[.pointer (some ⟨ba, oa, none⟩), .pointer (some ⟨bb, ob, none⟩)]).run Tryz.prog W15 = _ at hy
            have Hy := Lib.hid hy
            have HR := Lib.hid hR
            clear hR hY
            refine (wpIn_wide (n := 0)).1 ?_
            gi_wp2_with fail
            all_goals
              refine ⟨rfl, HR.out.mono ?_⟩
              rintro e' W' (⟨rfl, hJ', hk⟩ | ⟨rfl, hJx'⟩)
              · have bA2 := bxA2.kept hk (fun _ h => .inl h) (.inr (.inl rfl))
                have bB2 := bxB2.kept hk (fun _ h => .inl h) (.inr (.inr rfl))
                have H1 := Lib.hid bA2
                have H2 := Lib.hid bB2
                have HJ := Lib.hid hJ'
                clear bA2 bB2 hJ' hk bxA2 bxB2 hj15
                gi_wp2_with fail
                go_wp2_with fail
                exact ⟨⟨m, pre ++ [(some a, some b)], us, vs, HM1.out, by omega, Hk2, HJ.out, ⟨_, _, H1.out⟩, _, _, H2.out⟩, by rw [HMA.out, HMB.out, lenAt_of H1.out, lenAt_of H2.out]; exact HM2.out⟩
              · gi_wp2_with fail
                go_wp2_with fail
                (try simp only [Exit.inBlock, Exit.then])
                refine bodyPost_ret (results_none rfl _ _ _) rfl ?_
                exact ⟨⟨_, rfl⟩, .inr ⟨_, hJx'⟩⟩
end Go.Proofs.YtlbbepgfjigjpaaGreatDoor
namespace Go.Ab
open Go.RowKit Go.Proofs.YtlbbepgfjigjpaaGreatDoor
def offP (x : PR) : Option Ln × Option Ln := (x.1.map Prod.fst, x.2.map Prod.fst)
theorem pairsP_off : ∀ (n : Nat) (a b : List LA), (pairsP n a b).map offP = pairsL n (a.map Prod.fst) (b.map Prod.fst)
  | 0, _, _ => rfl
  | n + 1, [], [] => rfl
  | n + 1, a :: us, [] => by rw [pairsP, List.map_cons, pairsP_off n us []]; rfl
  | n + 1, [], b :: vs => by rw [pairsP, List.map_cons, pairsP_off n [] vs]; rfl
  | n + 1, a :: us, b :: vs => by
    rw [pairsP]
    by_cases h1 : a.1.cmp b.1 < 0
    · rw [if_pos h1, List.map_cons, pairsP_off n us (b :: vs), List.map_cons, List.map_cons, pairsL, if_pos h1]; rfl
    · by_cases h2 : 0 < a.1.cmp b.1
      · rw [if_neg h1, if_pos h2, List.map_cons, pairsP_off n (a :: us) vs, List.map_cons, List.map_cons, pairsL, if_neg h1, if_pos h2]; rfl
      · rw [if_neg h1, if_neg h2, List.map_cons, pairsP_off n us vs, List.map_cons, List.map_cons, pairsL, if_neg h1, if_neg h2]; rfl
/-- Lines with their addresses. -/
def addrL (b o : Nat) (l : List Ln) : List LA := l.zipIdx.map fun p => (p.1, ⟨b, o + p.2 * 11, none⟩)
theorem addrL_at (b o : Nat) (l : List Ln) (i : Nat) (x : Ln) (ad : Addr) (h : (addrL b o l)[i]? = some (x, ad)) : l[i]? = some x ∧ ad = ⟨b, o + i * 11, none⟩ := by
  unfold addrL at h
  rw [List.getElem?_map, List.getElem?_zipIdx] at h
  cases hl : l[i]? with
  | none => rw [hl] at h; simp at h
  | some y => rw [hl] at h; simp at h; exact ⟨by rw [h.1], h.2.symm⟩
theorem addrL_fst (b o : Nat) (l : List Ln) : (addrL b o l).map Prod.fst = l := by
  unfold addrL
  rw [List.map_map]
  have : (Prod.fst ∘ fun p : Ln × Nat => ((p.1, ⟨b, o + p.2 * 11, none⟩) : LA)) = Prod.fst := rfl
  rw [this, List.zipIdx_map_fst]
theorem addrL_length (b o : Nat) (l : List Ln) : (addrL b o l).length = l.length := by simp [addrL]
theorem RowP.of_row {w : World} {p : Option Addr} {cap : Nat} {l : List Ln} (h : LnRow w (.slice p l.length cap) l) (hb : ∀ x ∈ l, LnB x) : l.length ≤ cap ∧ ∃ la : List LA, la.map Prod.fst = l ∧ la.length = l.length ∧ RowP w.heap.size w p la := by
  obtain ⟨p', cap', hv, hle, hc⟩ := h
  simp only [Value.slice.injEq, true_and] at hv
  obtain ⟨rfl, rfl⟩ := hv
  refine ⟨hle, ?_⟩
  cases l with
  | nil => exact ⟨[], rfl, rfl, fun i x ad hi => by simp at hi⟩
  | cons y t =>
    obtain ⟨b, o, rfl, _, _⟩ := hc 0 y rfl
    refine ⟨addrL b o (y :: t), addrL_fst b o _, addrL_length b o _, fun i x ad hi => ?_⟩
    obtain ⟨hx, rfl⟩ := addrL_at b o _ i x ad hi
    obtain ⟨b', o', hp, hbw, hcc⟩ := hc i x hx
    simp only [Option.some.injEq, Addr.mk.injEq, and_true] at hp
    obtain ⟨rfl, rfl⟩ := hp
    exact ⟨b, o, rfl, rfl, hbw, hb x (List.mem_of_getElem? hx), hcc⟩
end Go.Ab
namespace Go.Proofs.YtlbbepgfjigjpaaGreatDoor
open Go.RowKit Go.Ab
theorem pairs_any (va vb : Value) (w : World) (p q : Option Addr) (n m c d : Nat) (ha : va = .slice p n c) (hb : vb = .slice q m d) :
    Calls Tryz.prog 22 #[va, vb] w fun e w' =>
      e = .returned (.func (.func 56) #[] #[.pointer (some ⟨w.heap.size, 0, none⟩), .pointer (some ⟨w.heap.size + 1, 0, none⟩)]) ∧ (w.alloc (.cells #[va] 22)).alloc (.cells #[vb] 22) = w' := by
  subst ha
  subst hb
  go_enter Tryz.func22, Tryz.ntmps22
  go_wp2
  go_ret
  exact ⟨rfl, rfl⟩
end Go.Proofs.YtlbbepgfjigjpaaGreatDoor
