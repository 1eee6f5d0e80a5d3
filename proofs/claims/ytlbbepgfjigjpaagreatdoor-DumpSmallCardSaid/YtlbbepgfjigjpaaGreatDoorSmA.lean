/- DumpSmall's closure: some lines out of a number. -/
import Derived.Test.YtlbbepgfjigjpaaGreatDoorRfB
import Derived.Test.YtlbbepgfjigjpaaGreatDoorDChaP
import Derived.Test.YtlbbepgfjigjpaaGreatDoorDEx
import Derived.Test.YtlbbepgfjigjpaaGreatDoorLF
set_option linter.unusedSimpArgs false
set_option linter.unusedVariables false
namespace Go.Ab
open Go.RowKit Go.Proofs.YtlbbepgfjigjpaaGreatDoor
/-- Slices in one place, held by variables. -/
structure SmHeld (w : World) (kp lp bk p : Nat) (ks ls : List Ln) : Prop where
  k : w.cell? ⟨kp, 0, none⟩ = some (.slice (some ⟨bk, 0, none⟩) 3 3)
  l : w.cell? ⟨lp, 0, none⟩ = some (.slice (some ⟨p, 0, none⟩) 2 2)
  kr : ∀ (i : Nat) (x : Ln), ks[i]? = some x → w.rangeAt bk (i * 5) x.kcs
  lr : ∀ (i : Nat) (x : Ln), ls[i]? = some x → w.rangeAt p (i * 11) x.cells
  kl : kp < w.heap.size
  ll : lp < w.heap.size
  bl : bk < w.heap.size
  pl : p < w.heap.size
theorem SmHeld.up {w W : World} {kp lp bk p : Nat} {ks ls : List Ln} (h : SmHeld w kp lp bk p ks ls) (u : Up w W) : SmHeld W kp lp bk p ks ls where
  k := u.cell_some' h.k
  l := u.cell_some' h.l
  kr := fun i x hx => rangeUp (h.kr i x hx) u
  lr := fun i x hx => rangeUp (h.lr i x hx) u
  kl := Nat.lt_of_lt_of_le h.kl u.size
  ll := Nat.lt_of_lt_of_le h.ll u.size
  bl := Nat.lt_of_lt_of_le h.bl u.size
  pl := Nat.lt_of_lt_of_le h.pl u.size
/-- A line with another key and another time. -/
def Ln.re (l k : Ln) (n : Int) : Ln := ⟨k.pr, k.s, k.d, k.sp, k.dp, l.sd, l.cl, l.rp, l.ss, l.dl, n⟩
theorem Ln.re_b {l k : Ln} {n : Int} (h : LnB l) (hk : LnB k) (h0 : -9223372036854775808 ≤ n) (h1 : n ≤ 9223372036854775807) : LnB (l.re k n) := ⟨hk.key, h.sd0, h.sd1, h.cl0, h.cl1, h.dl0, h.dl1, h0, h1⟩
theorem sm_bits (n : Int) (k : Nat) (n0 : 0 ≤ n) (n1 : n < 64) (hk : k < 3) : 0 ≤ bits BinOp.and IntKind.i64 (n / 2 ^ (2 * (k : Int)).toNat) 3 ∧ bits BinOp.and IntKind.i64 (n / 2 ^ (2 * (k : Int)).toNat) 3 ≤ 3 := by
  have h : ∀ (a : Fin 64) (b : Fin 3), 0 ≤ bits BinOp.and IntKind.i64 (((a.val : Nat) : Int) / 2 ^ (2 * ((b.val : Nat) : Int)).toNat) 3 ∧ bits BinOp.and IntKind.i64 (((a.val : Nat) : Int) / 2 ^ (2 * ((b.val : Nat) : Int)).toNat) 3 ≤ 3 := by decide +kernel
  have := h ⟨n.toNat, by omega⟩ ⟨k, hk⟩
  simpa [Int.toNat_of_nonneg n0] using this
theorem NilOk.of_owns {w : World} {base : Nat} {e : TypeId} {k : Nat} {v : Value} {n : Nat} {xs : List Value} (h : w.ownsRow base e k v n xs) : NilOk v := by
  obtain ⟨_, ⟨rfl, _⟩ | ⟨g, cap, cur, rfl, _⟩⟩ := h
  · intro n c he; simp only [Value.slice.injEq, true_and] at he; exact he.2.symm
  · intro n c he; simp at he
end Go.Ab
namespace Go.Proofs.YtlbbepgfjigjpaaGreatDoor
open Go.RowKit Go.Ab
theorem slice_lnM (y : Ln) (w : World) : (Instr.buildSlice 22 1 #[(0, .agg y.cells.toArray)]).run Tryz.prog w = .ok (.slice (some ⟨w.heap.size, 0, none⟩) 1 1) (w.alloc (.cells y.cells.toArray 31)) := by kernel_rfl
theorem ln_atM (X : World) (y : Ln) (t : TypeId) (j : Nat) (u : Value) (hu : y.cells[j]? = some u) : (X.alloc (.cells y.cells.toArray t)).cell? (Addr.add ⟨X.heap.size, 0, none⟩ j) = some u := by
  rw [show Addr.add ⟨X.heap.size, 0, none⟩ j = (⟨X.heap.size, j, none⟩ : Addr) by cases j <;> simp [Addr.add], World.cell?_alloc_at _ _ _ _ rfl]; simpa using hu
set_option maxHeartbeats 32000000 in
set_option maxRecDepth 100000 in
theorem dumps_any (n : Int) (kp lp bk p : Nat) (ks ls : List Ln) (w : World) (h : SmHeld w kp lp bk p ks ls) (hk : ks.length = 3) (hl : ls.length = 2) (hkb : ∀ x ∈ ks, LnB x) (hlb : ∀ x ∈ ls, LnB x) (n0 : 0 ≤ n) (n1 : n < 64) :
    Calls Tryz.prog 7 #[.int .i64 n, .pointer (some ⟨kp, 0, none⟩), .pointer (some ⟨lp, 0, none⟩)] w fun e w' => ∃ v a, e = .returned v ∧ LnRow w' v a ∧ NilOk v ∧ a.length ≤ 3 ∧ (∀ x ∈ a, LnB x) ∧ ∃ x : Ext w, w' = x.w := by
  obtain ⟨hK, hL, hkr, hlr, hkl, hll, hbl, hpl⟩ := h
  obtain ⟨i0, hi, hy0, hy1, hy2⟩ := info_parts infoLine
  have Hi := Lib.hid hi; have Hy0 := Lib.hid hy0; have Hy1 := Lib.hid hy1; have Hy2 := Lib.hid hy2
  clear hi hy0 hy1 hy2
  haveI : LtSize kp w := ⟨hkl⟩
  haveI : LtSize lp w := ⟨hll⟩
  haveI : LtSize bk w := ⟨hbl⟩
  haveI : LtSize p w := ⟨hpl⟩
  go_enter Tryz.func7, Tryz.ntmps7
  go_wp2_with fail
  go_loopw [5, 10] (fun out i wr => ∃ (k : Nat) (os : List Ln), k ≤ 3 ∧ i = .int .i64 (k : Int) ∧ os.length ≤ k ∧ (∀ x ∈ os, LnB x) ∧ Hid (wr.ownsRow w.heap.size 31 11 out os.length (os.flatMap Ln.cells)) ∧ Up w wr) (fun _ i _ => 3 - (intOf i).toNat)
  case atStart => exact ⟨0, [], Nat.zero_le _, rfl, Nat.zero_le _, (by intro x h; cases h), Lib.hid (World.ownsRow_nil _ _ _ _), Up.refl _⟩
  case round =>
    obtain ⟨k, os, hk3, rfl, hos, hob, Hown, hu⟩ := hrel
    haveI : UpI w wr := ⟨hu⟩
    by_cases hlt : k < 3
    · have hlt' : (k : Int) < 3 := by omega
      have k0 : (0 : Int) ≤ (k : Int) := by omega
      obtain ⟨kx, hkx⟩ : ∃ f, ks[k]? = some f := ⟨_, List.getElem?_eq_getElem (by omega)⟩
      obtain ⟨m, hm⟩ : ∃ m : Nat, k % 2 = m := ⟨_, rfl⟩
      have hm2 : m < 2 := by omega
      obtain ⟨lx, hlx⟩ : ∃ f, ls[m]? = some f := ⟨_, List.getElem?_eq_getElem (by omega)⟩
      have hrm : Int.tmod (k : Int) 2 = (m : Int) := by
        rw [← hm]; rcases (by omega : k = 0 ∨ k = 1 ∨ k = 2) with rfl | rfl | rfl <;> rfl
      have hm0 : (0 : Int) ≤ (m : Int) := by omega
      have hm1 : (m : Int) < 2 := by omega
      have hX : wr.rangeAt p (m * 11) lx.cells := rangeUp (hlr m lx hlx) hu
      have hKX : wr.rangeAt bk (k * 5) kx.kcs := rangeUp (hkr k kx hkx) hu
      have hK' := hu.cell_some' hK
      have hL' := hu.cell_some' hL
      have hbx := hkb kx (List.mem_of_getElem? hkx)
      have hby := hlb lx (List.mem_of_getElem? hlx)
      go_upto_region 6 with (first
        | ((with_reducible refine held ?_); refine H_load_mid rfl 31 _ rfl p (m * 11) rfl lx.cells _ hX Tryz.underlying31 rfl lnSize ?_)
        | ((with_reducible refine held ?_); refine H_store_row rfl 31 _ _ rfl _ lx.cells.toArray rfl rfl 31 _ (alloc_new rfl) lnSize rfl (ln_all lx) ?_))
      obtain ⟨D, hD⟩ : ∃ D, wr.heap.size = D := ⟨_, rfl⟩
      rw [hD]
      refine wp_letter (fun Z => UpI wr Z ∧ Z.heap[D]? = some (.cells lx.cells.toArray 31 (0, 0))) ⟨⟨UpI.row hD _⟩, setRow_heap _ _ _ _ _ _ (alloc_new hD)⟩ ?_
      rintro Z ⟨uZ, hZ⟩
      have hy := LnAt.of_heap hZ
      haveI := uZ
      haveI : UpI w Z := ⟨hu.trans uZ.up⟩
      haveI := hy.lt
      obtain ⟨c0, c1, c2, c3, c4, c5, c6, c7, c8, c9, c10⟩ := hy
      have d0 : Z.cell? ⟨bk, k * 5, none⟩ = some (.int .u8 kx.pr) := uZ.up.cell_some' (hKX 0 _ rfl)
      have d1 : Z.cell? ⟨bk, k * 5 + 1, none⟩ = some (.int .u32 kx.s) := uZ.up.cell_some' (hKX 1 _ rfl)
      have d2 : Z.cell? ⟨bk, k * 5 + 2, none⟩ = some (.int .u32 kx.d) := uZ.up.cell_some' (hKX 2 _ rfl)
      have d3 : Z.cell? ⟨bk, k * 5 + 3, none⟩ = some (.int .u16 kx.sp) := uZ.up.cell_some' (hKX 3 _ rfl)
      have d4 : Z.cell? ⟨bk, k * 5 + 4, none⟩ = some (.int .u16 kx.dp) := uZ.up.cell_some' (hKX 4 _ rfl)
      have hKZ := uZ.up.cell_some' hK'
      have hw2 : IntKind.i64.wrap (2 * (k : Int)) = 2 * (k : Int) := by
        rcases (by omega : k = 0 ∨ k = 1 ∨ k = 2) with rfl | rfl | rfl <;> decide
      have hw3 : (0 : Int) ≤ 2 * (k : Int) := by omega
      have hw4 : 2 * (k : Int) ≤ 4 := by omega
      have f0 : Z.frozen? ⟨D, 0, none⟩ = false := by simp [World.frozen?, hZ]
      have f1 : Z.frozen? ⟨D, 1, none⟩ = false := by simp [World.frozen?, hZ]
      have f2 : Z.frozen? ⟨D, 2, none⟩ = false := by simp [World.frozen?, hZ]
      have f3 : Z.frozen? ⟨D, 3, none⟩ = false := by simp [World.frozen?, hZ]
      have f4 : Z.frozen? ⟨D, 4, none⟩ = false := by simp [World.frozen?, hZ]
      have f10 : Z.frozen? ⟨D, 10, none⟩ = false := by simp [World.frozen?, hZ]
      have HZ := Lib.hid hZ
      clear hX hKX hK' hL' hZ
      go_region_with fail
      go_upto_region 7 with fail
      obtain ⟨nb0, nb1⟩ := sm_bits n k n0 n1 hlt
      generalize bits BinOp.and IntKind.i64 (n / 2 ^ (2 * (k : Int)).toNat) 3 = N at *
      generalize n / 2 ^ (2 * (k : Int)).toNat = N' at *
      haveI : GeSize wr D := ⟨by omega⟩
      refine wp_letter (fun U => UpI wr U ∧ LnAt U D (lx.re kx N)) ?hst ?_
      case hst => exact ⟨inferInstance, ⟨by simp [go_sem, Ln.re, c0], by simp [go_sem, Ln.re, c1], by simp [go_sem, Ln.re, c2], by simp [go_sem, Ln.re, c3], by simp [go_sem, Ln.re, c4], by simp [go_sem, Ln.re, c5], by simp [go_sem, Ln.re, c6], by simp [go_sem, Ln.re, c7], by simp [go_sem, Ln.re, c8], by simp [go_sem, Ln.re, c9], by simp [go_sem, Ln.re, c10]⟩⟩
      clear f0 f1 f2 f3 f4 f10 HZ c0 c1 c2 c3 c4 c5 c6 c7 c8 c9 c10 d0 d1 d2 d3 d4 hKZ hw2 hw3 hw4
      rintro U ⟨uU, hy⟩
      haveI := uU
      haveI : UpI w U := ⟨hu.trans uU.up⟩
      haveI := hy.lt
      have hbz : LnB (lx.re kx N) := Ln.re_b hby hbx (by omega) (by omega)
      have HY := Lib.hid hy
      have HNv : (lx.re kx N).sn = N := rfl
      generalize lx.re kx N = x at *
      obtain ⟨c0, c1, c2, c3, c4, c5, c6, c7, c8, c9, c10⟩ := hy
      rw [HNv] at c10
      clear c0 c1 c2 c3 c4 c5 c6 c7 c8 c9 HNv
      by_cases hpos : 0 < N
      · have HF := Lib.hid (show (os ++ [x]).flatMap Ln.cells = os.flatMap Ln.cells ++ x.cells by simp)
        generalize os.flatMap Ln.cells = cs at *
        go_wp2_with (first
          | ((with_reducible refine held ?_); refine H_load_mid rfl 31 _ rfl D 0 rfl x.cells _ (HY.out.up upI).range Tryz.underlying31 rfl lnSize ?_)
          | ((with_reducible refine held ?_); refine H_sliceRun rfl 22 1 _ rfl #[(0, .agg x.cells.toArray)] (by kernel_rfl) _ _ (slice_lnM x _) ?_)
          | (at_builtin; (with_reducible refine held ?_); refine H_append_own rfl _ _ 22 rfl w.heap.size 31 i0 Ln.zero.val 11 40 Tryz.underlying22 Hi.out Hy0.out Hy1.out Hy2.out rfl (by decide) _ _ _ rfl (owns_up Hown.out (upI : Up wr _)) ⟨_, 0, none⟩ 1 1 x.cells rfl rfl ?c1 ?c2 ?c3 ?c4 ?c5 ?_))
        case c1 => intro j u hj; exact ln_atM U x _ j u hj
        case c2 => exact fun u h => x.one u h
        case c3 => exact Nat.le_trans (by omega : os.length + 1 ≤ 4) (by unfold maxLen; decide)
        case c4 => exact Nat.le_trans (Nat.mul_le_mul_right 40 (by omega : os.length + 1 ≤ 4)) (by decide)
        case c5 => first | exact Nat.le_succ_of_le (upI : Up w U).size | exact (upI : Up w _).size
        intro v' w1 hown' hgrow _
        have hu1 : Up w w1 := Up.grown (upI : Up w _) hgrow (owns_row Hown.out)
        have Hown' := Lib.hid hown'
        clear hown' hgrow Hown
        go_wp2_with fail
        go_roundw
        case rel => exact ⟨k + 1, os ++ [x], Nat.succ_le_of_lt hlt, by go_num, by rw [List.length_append]; exact Nat.succ_le_succ hos, (by intro y h; rcases List.mem_append.1 h with h | h; exact hob y h; obtain rfl := List.mem_singleton.1 h; exact hbz), by rw [HF.out, List.length_append]; exact Hown', hu1⟩
        case measure => simp [intOf]; omega
      · go_wp2_with fail
        go_roundw
        case rel => exact ⟨k + 1, os, Nat.succ_le_of_lt hlt, by go_num, Nat.le_succ_of_le hos, hob, Lib.hid (owns_up Hown.out (upI : Up wr U)), (upI : Up w U)⟩
        case measure => simp [intOf]; omega
    · obtain rfl : k = 3 := by omega
      go_wp2_with fail
      go_ret
      exact ⟨_, os, rfl, LnRow.of_owns Hown.out, NilOk.of_owns Hown.out, hos, hob, hu.mk⟩
end Go.Proofs.YtlbbepgfjigjpaaGreatDoor
