/- The prefixes that cover a range of addresses: what covers and Cover of package addr do. -/
import Derived.Test.YtgfkcbflnkpogaaGreatDoorRange
import Derived.Test.YtgfkcbflnkpogaaGreatDoorAddr2
import Derived.Deep.DeepCutAuto
namespace Go.Ab
open Go.RowKit
/-- Does the widest prefix that begins at a end behind b at length n? -/
def fitsB (a b n : Int) : Bool := (a % sz n == 0) && decide (a + (sz n - 1) ≤ b)
def cnFrom (a b : Int) : Nat → Int → Int
  | 0, n => n
  | f + 1, n => if fitsB a b n then n else cnFrom a b f (n + 1)
/-- The length of the widest prefix that begins at a and does not end behind b. -/
def cn (a b : Int) : Int := cnFrom a b 32 0
def lastOf (a b : Int) : Int := a + (sz (cn a b) - 1)
def coverFrom (b : Int) : Nat → Int → List (Int × Int)
  | 0, _ => []
  | f + 1, a => (a, cn a b) :: (if lastOf a b = b then [] else coverFrom b f (lastOf a b + 1))
/-- The prefixes that cover a range. -/
def coverL (a b : Int) : List (Int × Int) := coverFrom b ((b - a).toNat + 1) a

theorem fits_32 (a b : Int) (h : a ≤ b) : fitsB a b 32 = true := by
  unfold fitsB; rw [sz_big 32 (by omega)]
  simp; omega
theorem cnFrom_spec (a b : Int) (h : a ≤ b) : ∀ (f : Nat) (n : Int), n + f = 32 → 0 ≤ n → fitsB a b (cnFrom a b f n) = true ∧ 0 ≤ cnFrom a b f n ∧ cnFrom a b f n ≤ 32
  | 0, n, hn, h0 => by
    have : n = 32 := by omega
    subst this
    exact ⟨fits_32 a b h, by simp [cnFrom], by simp [cnFrom]⟩
  | f + 1, n, hn, h0 => by
    rw [cnFrom]
    split
    · rename_i hf; exact ⟨hf, h0, by omega⟩
    · exact cnFrom_spec a b h f (n + 1) (by omega) (by omega)
theorem cn_spec (a b : Int) (h : a ≤ b) : fitsB a b (cn a b) = true ∧ 0 ≤ cn a b ∧ cn a b ≤ 32 := cnFrom_spec a b h 32 0 rfl (by omega)
theorem fits_parts {a b n : Int} (h : fitsB a b n = true) : a % sz n = 0 ∧ a + (sz n - 1) ≤ b := by
  unfold fitsB at h; simpa using h
theorem last_bd (a b : Int) (h : a ≤ b) : a ≤ lastOf a b ∧ lastOf a b ≤ b := by
  have := (fits_parts (cn_spec a b h).1).2
  have := sz_pos (cn a b)
  unfold lastOf; omega
/-- More fuel changes nothing. -/
theorem coverFrom_fuel (b : Int) : ∀ (f g : Nat) (a : Int), a ≤ b → (b - a).toNat < f → (b - a).toNat < g → coverFrom b f a = coverFrom b g a
  | 0, _, _, _, h, _ => by omega
  | _ + 1, 0, _, _, _, h => by omega
  | f + 1, g + 1, a, hab, hf, hg => by
    rw [coverFrom, coverFrom]
    by_cases h : lastOf a b = b
    · rw [if_pos h, if_pos h]
    · have := last_bd a b hab
      rw [if_neg h, if_neg h, coverFrom_fuel b f g (lastOf a b + 1) (by omega) (by omega) (by omega)]
theorem coverFrom_length (b : Int) : ∀ (f : Nat) (a : Int), (coverFrom b f a).length ≤ f
  | 0, _ => by simp [coverFrom]
  | f + 1, a => by
    rw [coverFrom, List.length_cons]
    split
    · simp
    · have := coverFrom_length b f (lastOf a b + 1); omega
theorem coverL_length (a b : Int) : (coverL a b).length ≤ (b - a).toNat + 1 := coverFrom_length b _ a
theorem coverL_step (a b : Int) (h : a ≤ b) : coverL a b = (a, cn a b) :: (if lastOf a b = b then [] else coverL (lastOf a b + 1) b) := by
  have hb := last_bd a b h
  unfold coverL
  rw [coverFrom]
  by_cases hl : lastOf a b = b
  · rw [if_pos hl, if_pos hl]
  · rw [if_neg hl, if_neg hl, coverFrom_fuel b ((b - a).toNat) ((b - (lastOf a b + 1)).toNat + 1) (lastOf a b + 1) (by omega) (by omega) (by omega)]
theorem cnFrom_no (a b n : Int) (f : Nat) (h : fitsB a b n = false) : cnFrom a b (f + 1) n = cnFrom a b f (n + 1) := by rw [cnFrom, h]; simp
theorem cnFrom_yes (a b n : Int) (f : Nat) (h : fitsB a b n = true) : cnFrom a b f n = n := by
  cases f with
  | zero => rfl
  | succ f => rw [cnFrom, if_pos h]
theorem Turn.of_up {p : Nat → Prop} {A B : World} (h : Up A B) : Turn p A B := ⟨none, ⟨h.os, h.tape, h.output, h.size, fun k hk _ => h.block k hk⟩, fun _ e => by cases e⟩
theorem Turn.of_setCell {p : Nat → Prop} (A : World) (a : Addr) (v : Value) (h : p a.block) : Turn p A (A.setCell a v) :=
  ⟨some a.block, ⟨rfl, rfl, rfl, by simp, fun k _ hk => Below.heap_setCell A a v k (fun e => hk (by rw [e]))⟩, fun _ e => by cases e; exact h⟩
theorem Kept.cell {p : Nat → Prop} {A B : World} (h : Kept p A B) {a : Addr} {v : Value} (hc : A.cell? a = some v) (hp : p a.block) : B.cell? a = some v :=
  (World.cell?_of_block (h.2 _ hp (cell_lt' hc))).trans hc
theorem Kept.frozen {p : Nat → Prop} {A B : World} (h : Kept p A B) {a : Addr} {v : Value} (hc : A.cell? a = some v) (hp : p a.block) : B.frozen? a = A.frozen? a :=
  World.frozen?_of_block (h.2 _ hp (cell_lt' hc))
end Go.Ab
namespace Go.Proofs.YtgfkcbflnkpogaaGreatDoor
open Go.RowKit Go.Ab
attribute [local go_sem] Oper.semAt_some

def coverOwn (bf bt : Nat) (_ : Nat) (b : Nat) : Prop := b = bf ∨ b = bt
def encPrefix (p : Int × Int) : Array Value := #[.agg #[.int .u32 p.1, .int .u8 p.2]]

set_option maxHeartbeats 4000000 in
theorem covers_seq (bf bt : Nat) (a0 b : Int) (ha0 : 0 ≤ a0) (hab : a0 ≤ b) (hb : b < 4294967296) (hne : bf ≠ bt) :
    SeqUp Tryz.prog 105 #[.pointer (some ⟨bf, 0, none⟩), .pointer (some ⟨bt, 0, none⟩)] encPrefix (fun xs => xs = coverL a0 b) (fun pre => pre <+: coverL a0 b) (coverOwn bf bt)
      (fun W => W.cell? ⟨bf, 0, none⟩ = some (.int .u32 a0) ∧ W.cell? ⟨bt, 0, none⟩ = some (.int .u32 b) ∧ W.frozen? ⟨bf, 0, none⟩ = false) := by
  intro l J Jx W hK hJ hJx hY h0
  obtain ⟨hc1, hc2, hf1⟩ := hK
  go_enter Tryz.func105, Tryz.ntmps105
  go_wp2_with fail
  go_loopw [4, 5] (fun _ _ wr => ∃ (a : Int) (pre : List (Int × Int)), 0 ≤ a ∧ a ≤ b ∧ Hid (pre ++ coverL a b = coverL a0 b) ∧ J pre wr ∧ wr.cell? ⟨bf, 0, none⟩ = some (.int .u32 a) ∧ wr.cell? ⟨bt, 0, none⟩ = some (.int .u32 b) ∧ wr.frozen? ⟨bf, 0, none⟩ = false)
    (fun _ _ wr => (b - intOf ((wr.cell? ⟨bf, 0, none⟩).getD undef)).toNat)
  case atStart => exact ⟨a0, [], ha0, hab, rfl, h0, hc1, hc2, hf1⟩
  case round =>
    obtain ⟨a, pre, a0', ab, Hcov, hj, c1, c2, f1⟩ := hrel
    have lf : bf < wr.heap.size := cell_lt' c1
    have lt' : bt < wr.heap.size := cell_lt' c2
    go_wp2_with fail
    obtain ⟨wo, hwo⟩ : ∃ wo : World, wo = wr := ⟨_, rfl⟩
    rw [← hwo]
    subst hwo
    have a1 : a < 4294967296 := by omega
    have hsg : IntKind.u32.signed = false := rfl
    go_loopw [4] (fun n w' => ∃ (n' : Int) (f : Nat) (x : Ext wo), n = .int .u8 n' ∧ 0 ≤ n' ∧ n' ≤ 32 ∧ Hid (n' + f = 32) ∧ Hid (cnFrom a b f n' = cn a b) ∧ w' = x.w) (fun n _ => 32 - (intOf n).toNat)
    case atStart => exact ⟨0, 32, by obtain ⟨x, hx⟩ := (Up.refl wo).mk; exact ⟨x, rfl, by omega, by omega, rfl, rfl, hx⟩⟩
    case round =>
      obtain ⟨n', f, x, rfl, n0, n1, hnf, hcn, rfl⟩ := hrel
      have hm := andNot_mask a n' a0' a1 n0
      have HM := Lib.hid hm
      clear hm
      by_cases hd : a % sz n' = 0
      · have ho : Hid (bits .or .u32 a (bits .xor .u32 IntKind.u32.max (maskI n')) = a + (sz n' - 1)) := by rw [xor_mask n' n0]; exact or_low a n' a0' a1 n0 hd
        have hz : (bits .andNot .u32 a (maskI n') != 0) = false := by rw [HM.out, hd]; rfl
        by_cases hl : a + (sz n' - 1) ≤ b
        · have hgt : decide (b < bits .or .u32 a (bits .xor .u32 IntKind.u32.max (maskI n'))) = false := by rw [ho.out]; simp; omega
          have hfit : Hid (fitsB a b n' = true) := by unfold Hid fitsB; simp [hd, hl]
          clear hd hl
          go_wp2_with fail
          (refine wp_region_ext (by kernel_rfl) (by kernel_rfl) ?_; (repeat (go_big_quiet_step ((go_at_call 66; exact (mask_any n' _ n0).ext)))); refine wpQuiet_nil ?_; rintro _ ⟨y, rfl⟩)
          go_wp2_with fail
          obtain ⟨L, HL⟩ : ∃ L : Int, Hid (bits .or .u32 a (bits .xor .u32 IntKind.u32.max (maskI n')) = L) := ⟨_, rfl⟩
          have hcn' : Hid (n' = cn a b) := by have := cnFrom_yes a b n' f hfit.out; have := hcn.out; unfold Hid; omega
          have hL : Hid (L = lastOf a b) := by unfold Hid lastOf; rw [← hcn'.out, ← HL.out, ho.out]
          have hLb : a ≤ L ∧ L ≤ b := by rw [hL.out]; exact last_bd a b ab
          obtain ⟨La, Lb⟩ := hLb
          have lx := x.lt lf; have ly := y.lt lx; have mx := x.lt lt'; have my := y.lt mx
          clear hgt hz
          (refine wp_region_ext (by kernel_rfl) (by kernel_rfl) ?_; (repeat (go_big_quiet_step ((go_at_call 66; exact (mask_any n' _ n0).ext)))); refine wpQuiet_nil ?_; rintro _ ⟨z, rfl⟩)
          rw [HL.out]
          clear HL ho
          go_upto_region 4 with (fail)
          have cz1 : z.w.cell? ⟨bf, 0, none⟩ = some (.int .u32 a) := (((x.up.ext y).ext z)).cell_some' c1
          have cz2 : z.w.cell? ⟨bt, 0, none⟩ = some (.int .u32 b) := (((x.up.ext y).ext z)).cell_some' c2
          have fz : z.w.frozen? ⟨bf, 0, none⟩ = false := (Below.frozen (((x.up.ext y).ext z)) (p := ⟨bf, 0, none⟩) lf).trans f1
          obtain ⟨fn, tmps, assign, body, hy, hR⟩ := hY pre (a, n') z.w (hJ _ _ _ hj (Turn.of_up ((x.up.ext y).ext z))) (by rw [← Hcov.out, coverL_step a b ab, hcn'.out]; exact ⟨_, by rw [List.append_assoc]; rfl⟩)
          change (Instr.yield l #[.agg #[.int .u32 a, .int .u8 n']]).run Tryz.prog z.w = _ at hy
          have Hy := Lib.hid hy
          have HR := Lib.hid hR
          clear hR hY hfit
          by_cases hlb : L = b
          · have hb1 : (L == b) = true := by simpa using hlb
            have hcl : Hid (coverL a b = [(a, n')]) := by unfold Hid; rw [coverL_step a b ab, if_pos (hL.out.symm.trans hlb), ← hcn'.out]
            clear hlb
            refine (wpIn_wide (n := 0)).1 ?_
            gi_wp2_with fail
            refine ⟨rfl, HR.out.mono ?_⟩
            rintro e W' (⟨rfl, hJ', hk⟩ | ⟨rfl, hJx'⟩)
            · have cw2 : W'.cell? ⟨bt, 0, none⟩ = some (.int .u32 b) := hk.cell cz2 (.inr rfl)
              gi_wp2_with fail
              go_wp2_with fail
              (try simp only [Exit.inBlock, Exit.then])
              refine bodyPost_ret (results_none rfl _ _ _) rfl ?_
              exact ⟨⟨_, rfl⟩, .inl ⟨_, by rw [← Hcov.out, hcl.out], hJ'⟩⟩
            · gi_wp2_with fail
              go_wp2_with fail
              (try simp only [Exit.inBlock, Exit.then])
              refine bodyPost_ret (results_none rfl _ _ _) rfl ?_
              exact ⟨⟨_, rfl⟩, .inr ⟨_, hJx'⟩⟩
          · have hb1 : (L == b) = false := by simpa using hlb
            have hcl : Hid (coverL a b = (a, n') :: coverL (L + 1) b) := by unfold Hid; rw [coverL_step a b ab, if_neg (fun h => hlb (hL.out.trans h)), ← hcn'.out, ← hL.out]
            have hlt : L + 1 ≤ b := by omega
            clear hlb
            refine (wpIn_wide (n := 0)).1 ?_
            gi_wp2_with fail
            refine ⟨rfl, HR.out.mono ?_⟩
            rintro e W' (⟨rfl, hJ', hk⟩ | ⟨rfl, hJx'⟩)
            · have cw1 : W'.cell? ⟨bf, 0, none⟩ = some (.int .u32 a) := hk.cell cz1 (.inl rfl)
              have cw2 : W'.cell? ⟨bt, 0, none⟩ = some (.int .u32 b) := hk.cell cz2 (.inr rfl)
              have fw : W'.frozen? ⟨bf, 0, none⟩ = false := (hk.frozen cz1 (.inl rfl)).trans fz
              gi_wp2_with fail
              go_wp2_with fail
              have hst : Hid ((W'.setCell ⟨bf, 0, none⟩ (.int .u32 (L + 1))).cell? ⟨bf, 0, none⟩ = some (.int .u32 (L + 1))) := World.cell?_setCell_same' _ _ _ (by rw [cw1]; rfl)
              go_roundw
              case rel => exact ⟨L + 1, pre ++ [(a, n')], by omega, hlt, by unfold Hid; rw [← Hcov.out, hcl.out]; simp, hJ _ _ _ hJ' (Turn.of_setCell _ _ _ (.inl rfl)), hst.out, by rw [World.cell?_setCell_other (h := by intro e; exact hne (congrArg Addr.block e))]; exact cw2, by rw [World.frozen?_setCell]; exact fw⟩
              case measure =>
                rw [hst.out, c1]
                simp [intOf]; omega
            · gi_wp2_with fail
              go_wp2_with fail
              (try simp only [Exit.inBlock, Exit.then])
              refine bodyPost_ret (results_none rfl _ _ _) rfl ?_
              exact ⟨⟨_, rfl⟩, .inr ⟨_, hJx'⟩⟩
        · have hgt : decide (b < bits .or .u32 a (bits .xor .u32 IntKind.u32.max (maskI n'))) = true := by rw [ho.out]; simp; omega
          have hfit : Hid (fitsB a b n' = false) := by unfold Hid fitsB; simp [hl]
          have hn32 : n' < 32 := by
            rcases Int.lt_or_le n' 32 with h | h
            · exact h
            · rw [show n' = 32 by omega, sz_big 32 (by omega)] at hl; omega
          clear hd hl
          go_wp2_with fail
          (refine wp_region_ext (by kernel_rfl) (by kernel_rfl) ?_; (repeat (go_big_quiet_step ((go_at_call 66; exact (mask_any n' _ n0).ext)))); refine wpQuiet_nil ?_; rintro _ ⟨y, rfl⟩)
          obtain ⟨f', rfl⟩ : ∃ f', f = f' + 1 := ⟨f - 1, by have := hnf.out; omega⟩
          go_wp2_with fail
          go_roundw
          case rel => exact ⟨n' + 1, f', (by obtain ⟨t, ht⟩ := (x.up.ext y).mk; exact ⟨t, rfl, by omega, by omega, by have := hnf.out; unfold Hid; omega, by unfold Hid; rw [← cnFrom_no a b n' f' hfit.out]; exact hcn.out, ht⟩)⟩
          case measure => simp [intOf]; omega
      · have hz : (bits .andNot .u32 a (maskI n') != 0) = true := by rw [HM.out]; simpa using hd
        have hfit : Hid (fitsB a b n' = false) := by unfold Hid fitsB; simp [hd]
        have hn32 : n' < 32 := by
          rcases Int.lt_or_le n' 32 with h | h
          · exact h
          · rw [show n' = 32 by omega, sz_big 32 (by omega)] at hd; omega
        clear hd
        go_wp2_with fail
        (refine wp_region_ext (by kernel_rfl) (by kernel_rfl) ?_; (repeat (go_big_quiet_step ((go_at_call 66; exact (mask_any n' _ n0).ext)))); refine wpQuiet_nil ?_; rintro _ ⟨y, rfl⟩)
        obtain ⟨f', rfl⟩ : ∃ f', f = f' + 1 := ⟨f - 1, by have := hnf.out; omega⟩
        go_wp2_with fail
        go_roundw
        case rel => exact ⟨n' + 1, f', (by obtain ⟨t, ht⟩ := (x.up.ext y).mk; exact ⟨t, rfl, by omega, by omega, by have := hnf.out; unfold Hid; omega, by unfold Hid; rw [← cnFrom_no a b n' f' hfit.out]; exact hcn.out, ht⟩)⟩
        case measure => simp [intOf]; omega

/-- The cells of a row of prefixes. -/
def prefixCells (l : List (Int × Int)) : List Value := l.flatMap fun p => [.int .u32 p.1, .int .u8 p.2]
theorem prefixCells_snoc (l : List (Int × Int)) (p : Int × Int) : prefixCells (l ++ [p]) = prefixCells l ++ [.int .u32 p.1, .int .u8 p.2] := by simp [prefixCells]
theorem infoPrefix : (Tryz.prog.info? 62).map (fun i => (i.zero, i.size, i.bytes)) = some (some (.agg #[.int .u32 0, .int .u8 0]), 2, 8) := by kernel_rfl

set_option maxHeartbeats 400000 in
theorem covers_any (a b : Int) (w : World) :
    Calls Tryz.prog 84 #[.int .u32 a, .int .u32 b] w fun e w' =>
      e = .returned (.func (.func 105) #[] #[.pointer (some ⟨w.heap.size, 0, none⟩), .pointer (some ⟨w.heap.size + 1, 0, none⟩)]) ∧ (w.alloc (.cells #[.int .u32 a] 37)).alloc (.cells #[.int .u32 b] 37) = w' := by
  go_enter Tryz.func84, Tryz.ntmps84
  go_wp2
  go_ret
  exact ⟨rfl, rfl⟩

set_option maxHeartbeats 400000 in
theorem cover_no (a b : Int) (w : World) (h : b < a) : Gives Tryz.prog 48 #[.int .u32 a, .int .u32 b] w (.tuple #[.slice none 0 0, .int .i64 2]) := by
  unfold Gives
  go_enter Tryz.func48, Tryz.ntmps48
  go_wp2
  go_ret2
  exact ⟨rfl, Up.mk (by repeat (with_reducible first | exact Up.refl _ | refine Up.ext ?_ _ | refine Up.drew ?_ | refine Up.alloc ?_ _ | refine Up.setCell ?_ (by simp) _))⟩

set_option maxHeartbeats 4000000 in
theorem cover_yes (a b : Int) (w : World) (a0 : 0 ≤ a) (hab : a ≤ b) (hb : b < 4294967296) :
    Calls Tryz.prog 48 #[.int .u32 a, .int .u32 b] w fun e w' =>
      ∃ v, e = .returned (.tuple #[v, .int .i64 0]) ∧ w'.ownsRow w.heap.size 62 2 v (coverL a b).length (prefixCells (coverL a b)) ∧ ∃ x : Ext w, w' = x.w := by
  refine (callsIn_wide (n := 0)).1 (callsIn_of_wp_marks Tryz.func48 rfl trivial ?_ rfl)
  refine (wpIn_wide (n := 0)).2 ?_
  simp only [Tryz.ntmps48, List.size_toArray, List.length_cons, List.length_nil, Nat.reduceAdd, Nat.reduceSub, Array.replicate_succ, Array.replicate_zero, List.push_toArray, List.append_toArray, List.nil_append, List.cons_append]
  go_wp2_with (go_at_call 84; refine (covers_any _ _ _).mono ?_; rintro e w' ⟨rfl, rfl⟩)
  obtain ⟨s, hs⟩ : ∃ s, s = w.heap.size := ⟨_, rfl⟩
  obtain ⟨W0, hW0⟩ : ∃ W0, W0 = ((w.alloc (.cells #[.slice none 0 0] 42)).alloc (.cells #[.int .u32 a] 37)).alloc (.cells #[.int .u32 b] 37) := ⟨_, rfl⟩
  have hz0 : W0.heap.size = s + 3 := by rw [hW0, hs]; simp
  have hu0 : Up w W0 := by rw [hW0]; exact (by repeat (with_reducible first | exact Up.refl _ | refine Up.ext ?_ _ | refine Up.drew ?_ | refine Up.alloc ?_ _ | refine Up.setCell ?_ (by simp) _))
  have c1 : W0.cell? ⟨s + 1, 0, none⟩ = some (.int .u32 a) := by rw [hW0, hs]; simp [go_sem]
  have c2 : W0.cell? ⟨s + 2, 0, none⟩ = some (.int .u32 b) := by rw [hW0, hs]; simp [go_sem]
  have f1 : W0.frozen? ⟨s + 1, 0, none⟩ = false := by rw [hW0, hs]; simp [go_sem]
  have o1 : W0.heap[s]? = some (.cells #[.slice none 0 0] 42 (0, 0)) := by
    rw [hW0, hs, Below.heap_alloc _ _ _ (by simp; omega), Below.heap_alloc _ _ _ (by simp), World.alloc_heap_new]
  rw [← hW0, ← hs]
  clear hW0
  have hbk : ∀ k, book (coverOwn (s + 1) (s + 2)) W0.heap.size k → s + 1 ≤ k ∧ k < s + 5 := by
    intro k hk
    rw [hz0] at hk
    rcases hk with (rfl | rfl) | rfl | rfl <;> omega
  have hsw : w.heap.size ≤ s := by omega
  have hsw2 : s ≤ w.heap.size := by omega
  have Hs := Lib.hid hs
  clear hs
  obtain ⟨i0, hi, hy0, hy1, hy2⟩ := info_parts infoPrefix
  refine wp_rangeFunc_up (α := Int × Int) (gf := 105) (lb := #[.pointer (some ⟨s + 1, 0, none⟩), .pointer (some ⟨s + 2, 0, none⟩)]) rfl (enters Tryz.func105 (by kernel_rfl) rfl)
    (covers_seq (s + 1) (s + 2) a b a0 hab hb (by omega)) (fun _ => rfl) ?hK0 ?hown
    (fun pre W => (Up w W ∧ s + 5 ≤ W.heap.size) ∧ ∃ v, W.heap[s]? = some (.cells #[v] 42 (0, 0)) ∧ W.ownsRow (s + 5) 62 2 v pre.length (prefixCells pre))
    (fun _ _ _ => False)
    (fun pre x a1 W => (Up w W ∧ s + 5 ≤ W.heap.size) ∧ (∃ v, W.heap[s]? = some (.cells #[v] 42 (0, 0)) ∧ W.ownsRow (s + 5) 62 2 v pre.length (prefixCells pre)) ∧
      ∃ bp, s + 5 ≤ bp ∧ W.heap[bp]? = some (.cells #[.int .u32 x.1, .int .u8 x.2] 62 (0, 0)) ∧
      a1 = { tmps := #[.int .u32 a, .int .u32 b, undef, undef, .slice none 0 0, .int .i64 0, .pointer (some ⟨s, 0, none⟩), .pointer (some ⟨bp, 0, none⟩), .int .u32 a, .int .u32 b, .bool (decide (b < a)), .int .u32 a, .int .u32 b,
        .func (.func 105) #[] #[.pointer (some ⟨s + 1, 0, none⟩), .pointer (some ⟨s + 1 + 1, 0, none⟩)], .agg #[.int .u32 x.1, .int .u8 x.2], undef, undef, undef, undef, undef], defers := [] })
    ?hI ?hIx ?hA ?h0 ?assign ?body ?done ?stop
  case hK0 =>
    intro W1 hu hsz
    exact ⟨hu.cell_some' c1, hu.cell_some' c2, (Below.frozen hu (p := ⟨s + 1, 0, none⟩) (cell_lt' c1)).trans f1⟩
  case hown =>
    intro k hk
    rw [hz0]
    rcases hk with rfl | rfl <;> omega
  case hI =>
    rintro pre X Y ⟨⟨hu, hz⟩, v, hv, hown⟩ ht
    exact ⟨⟨ht.up hu (fun k hk => by have := hbk k hk; omega), Nat.le_trans hz ht.size⟩, v, ht.same hv (fun hk => by have := hbk _ hk; omega), owns_turn ht hown (fun k hk => (hbk k hk).2)⟩
  case hIx => intro c pre X Y h _; exact h
  case hA =>
    rintro pre x a1 X Y ⟨⟨hu, hz⟩, ⟨v, hv, hown⟩, bp, hb5, hb, rfl⟩ ht
    exact ⟨⟨ht.up hu (fun k hk => by have := hbk k hk; omega), Nat.le_trans hz ht.size⟩, ⟨v, ht.same hv (fun hk => by have := hbk _ hk; omega), owns_turn ht hown (fun k hk => (hbk k hk).2)⟩,
      bp, hb5, ht.same hb (fun hk => by have := hbk _ hk; omega), rfl⟩
  case h0 =>
    intro W1 hu hsz
    exact ⟨⟨hu0.trans hu, by omega⟩, _, (hu.block s (by omega)).trans o1, World.ownsRow_nil _ _ _ _⟩
  case assign =>
    rintro l pre x W ⟨⟨hu, hz⟩, v, hv, hown⟩ _
    have Hv := Lib.hid hv
    have Hown := Lib.hid hown
    have Hbk := Lib.hid hbk
    clear hv hown hbk hi hy0 hy1 hy2 c1 c2 f1 o1 hu0
    rw [show encPrefix x = #[.agg #[.int .u32 x.1, .int .u8 x.2]] from rfl, foldl_one]
    show Code.wpIn (Fence.wide.inRound l) 0 Tryz.prog _ _ { tmps := #[.int .u32 a, .int .u32 b, undef, undef, .slice none 0 0, .int .i64 0, .pointer (some ⟨s, 0, none⟩), undef, .int .u32 a, .int .u32 b, .bool (decide (b < a)), .int .u32 a, .int .u32 b,
        .func (.func 105) #[] #[.pointer (some ⟨s + 1, 0, none⟩), .pointer (some ⟨s + 1 + 1, 0, none⟩)], .agg #[.int .u32 x.1, .int .u8 x.2], undef, undef, undef, undef, undef], defers := [] } W
    gi_wp2
    exact ⟨(Kept.refl _ _).alloc _, ⟨hu.alloc _, by simp; omega⟩, ⟨v, (Below.heap_alloc _ _ _ (by omega)).trans Hv.out, owns_up Hown.out ((Up.refl W).alloc _)⟩, W.heap.size, hz, World.alloc_heap_new _ _, rfl⟩
  case body =>
    rintro l pre x a1 W ⟨⟨hu, hz⟩, ⟨v, hv, hown⟩, bp, hb5, hb, rfl⟩ hp
    have hlen : pre.length + 1 ≤ 4294967296 := by
      have h1 := hp.length_le
      have h2 := coverL_length a b
      simp at h1; omega
    have hcv := cell_of_one hv
    have hfv := free_of_one hv
    have hp0 : W.cell? ⟨bp, 0, none⟩ = some (.int .u32 x.1) := by simp [World.cell?, hb]
    have hp1 : W.cell? ⟨bp, 1, none⟩ = some (.int .u8 x.2) := by simp [World.cell?, hb]
    have Hv := Lib.hid hv
    have Hown := Lib.hid hown
    have Hbk := Lib.hid hbk
    have Hi := Lib.hid hi; have Hy0 := Lib.hid hy0; have Hy1 := Lib.hid hy1; have Hy2 := Lib.hid hy2
    clear hv hown hbk hi hy0 hy1 hy2 c1 c2 f1 o1 hu0 hp hb
    gi_wp2_with (gi_at_builtin; refine wpListIn_append_own _ rfl _ _ 42 rfl (s + 5) 62 i0 (.agg #[.int .u32 0, .int .u8 0]) 2 8 Tryz.underlying42 Hi.out Hy0.out Hy1.out Hy2.out rfl (by decide) _ _ _ rfl (owns_up Hown.out ((Up.refl W).alloc _)) ⟨W.heap.size, 0, none⟩ 1 1 [.int .u32 x.1, .int .u8 x.2] rfl rfl ?c1 ?c2 ?c3 ?c4 ?c5 ?_)
    case c1 =>
      intro j u hj
      rcases j with _ | _ | j
      · simp at hj; subst hj; simp [Addr.add, go_sem]
      · simp at hj; subst hj; simp [Addr.add, go_sem]
      · simp at hj
    case c2 =>
      intro u hu
      simp at hu
      rcases hu with rfl | rfl <;> rfl
    case c3 => unfold maxLen; omega
    case c4 => omega
    case c5 => simp; omega
    intro v' w1 hown' hgrow _
    have hk1 : Hid (Kept (book (coverOwn (s + 1) (s + 2)) W0.heap.size) W w1) := ((Kept.refl _ _).alloc _).grown hgrow (fun r hr hb' => by have := owns_row Hown.out r hr; have := Hbk.out r hb'; omega)
    have hu1 : Up w w1 := (hu.alloc _).grown hgrow (fun r hr => by have := owns_row Hown.out r hr; omega)
    have hz1 : s + 5 ≤ w1.heap.size := by have := hgrow.size; simp at this; omega
    have hv1 : w1.heap[s]? = some (.cells #[v] 42 (0, 0)) := by
      rw [hgrow.block s (by simp; omega) (fun e => by have := owns_row Hown.out s e.symm; omega), Below.heap_alloc _ _ _ (by omega)]; exact Hv.out
    obtain ⟨g, cap, rfl, hg5⟩ := owns_slice hown'
    have hcv1 := cell_of_one hv1
    have hfv1 := free_of_one hv1
    have Hv1 := Lib.hid hv1
    have Hown' := Lib.hid hown'
    clear hv1 hown' hgrow hcv hfv hp0 hp1 hu
    gi_wp2_with fail
    refine ⟨hk1.out.setCell (by intro h; have := Hbk.out _ h; simp at this; omega) _, ⟨hu1.setCell (by simp; omega) _, by simp; omega⟩, _, one_setCell Hv1.out, ?_⟩
    rw [List.length_append, prefixCells_snoc]
    exact owns_setBlock Hown'.out (by simp) _
  case done =>
    rintro xs W rfl ⟨⟨hu, hz⟩, v, hv, hown⟩ hD
    have hcv := cell_of_one hv
    have Hown := Lib.hid hown
    have HD := Lib.hid hD
    have Hbk := Lib.hid hbk
    have Hv := Lib.hid hv
    clear hown hD hbk hv c1 c2 f1 o1 hu0 hi hy0 hy1 hy2
    go_wp2_with fail
    refine ⟨by simp, .inl ⟨_, _, rfl, run_takeDeferred HD.out, ?_⟩⟩
    have ht : Turn (fun k => k = W0.heap.size) W (W.putObj W0.heap.size (.deferred none)) := turn_putObj _ _ _ rfl
    exact ⟨_, results_tmp2 rfl _ _ _, v, rfl, owns_base (owns_turn ht Hown.out (fun k hk => by omega)) (by omega), (ht.up hu (fun k hk => by omega)).mk⟩
  case stop => intro c pre W h _; exact h.elim
end Go.Proofs.YtgfkcbflnkpogaaGreatDoor
