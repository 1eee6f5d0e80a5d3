/- SpanAlgebra, walked. -/
import Derived.Test.YtgfkcbflnkpogaaGreatDoorRowPut
set_option linter.unusedSimpArgs false
set_option linter.unusedVariables false
namespace Go.Ab
open Go.RowKit
def u32Cells (n : Int) : List Value := [.int .u32 n]
abbrev NumRow (w : World) (v : Value) (l : List Int) : Prop := RowOf u32Cells 1 w v l
/-- What the loop over the numbers asks: each of the sets has what it should have. -/
structure Alg (a b U C D X : List Sp) : Prop where
  u : ∀ n, hasS U n = (hasS a n || hasS b n)
  c : ∀ n, hasS C n = (hasS a n && hasS b n)
  d : ∀ n, hasS D n = (hasS a n && !hasS b n)
  x : ∀ n, 0 ≤ n → n < 4294967296 → hasS X n = !hasS a n
theorem alg_of {n m : Nat} {a b : List Sp} (ha : RS n a) (hb : RS m b) : Alg a b (unionL a b) (commonL a b) (withoutL a b) (othersL a) :=
  ⟨fun n => hasS_union a b n ha.b hb.b, fun n => hasS_common a b n ha.b, fun n => hasS_without n b a, fun n h0 h1 => by
    rw [hasS_others]
    have : inU n = true := by unfold inU; simp; omega
    rw [this, Bool.true_and]⟩
theorem u32_length (n : Int) : (u32Cells n).length = 1 := rfl
theorem u32_one (n : Int) (u : Value) (h : u ∈ u32Cells n) : u.oneCell' = true := by
  rw [List.mem_singleton.1 h]; rfl
theorem owns_notB {w : World} {base : Nat} {e t : TypeId} {size n B : Nat} {v : Value} {xs : List Value} {cur : Array Value} {fz : Nat × Nat} (h : w.ownsRow base e size v n xs) (hB : w.heap[B]? = some (.cells cur t fz)) (hne : t ≠ e) : some B ≠ v.ownBlock := by
  intro he
  rcases h.2 with ⟨rfl, _⟩ | ⟨g, cap, c2, rfl, _, hg, _⟩
  · cases he
  · simp only [Value.ownBlock, Option.map_some, Option.some.injEq] at he
    subst he
    rw [hB] at hg
    simp only [Option.some.injEq, Obj.cells.injEq] at hg
    exact hne hg.2.1
theorem u32_wrap (n : Int) : 0 ≤ IntKind.u32.wrap n ∧ IntKind.u32.wrap n < 4294967296 := by
  simp only [IntKind.wrap, IntKind.bits, IntKind.signed]
  constructor <;> (try simp) <;> omega
end Go.Ab
namespace Go.Proofs.YtgfkcbflnkpogaaGreatDoor
open Go.RowKit Go.Ab
theorem infoU32 : (Tryz.prog.info? 37).map (fun i => (i.zero, i.size, i.bytes)) = some (some (.int .u32 0), 1, 4) := by kernel_rfl
theorem num4_row (W : World) (p q r s : Int) (b : Nat) (h : b = W.heap.size) : NumRow (W.alloc (.cells #[.int .u32 p, .int .u32 q, .int .u32 r, .int .u32 s] 37)) (.slice (some ⟨b, 0, none⟩) 4 4) [p, q, r, s] := by
  subst h
  exact RowOf.of_block (cells := u32Cells) (k := 1) u32_length (l := [p, q, r, s]) (t := 37) (fz := (0, 0)) (by rw [alloc_get, if_pos rfl]; rfl) (Nat.le_refl _)
theorem owns_two (w : World) (base : Nat) (p q : Int) (hb : base ≤ w.heap.size) :
    (w.alloc (.cells #[.int .u32 p, .int .u32 q] 37)).ownsRow base 37 1 (.slice (some ⟨w.heap.size, 0, none⟩) 2 2) [p, q].length ([p, q].flatMap u32Cells) :=
  ⟨by simp [u32Cells], .inr ⟨w.heap.size, 2, _, rfl, hb, World.alloc_heap_new _ _, by simp, by unfold maxLen; omega, by simp, by simp [u32Cells]⟩⟩
open Go.RowKit Go.Ab
attribute [local go_sem high] wrapU32 wrapI64 wrapK64
set_option maxHeartbeats 64000000 in
set_option maxRecDepth 100000 in
theorem salg_any (l m : List SPc) (ns : List Int) (vl vm vn : Value) (w : World) (g : Good w) (rl : PcRow w vl l) (rm : PcRow w vm m) (bl : ∀ x ∈ l, SPcB x) (bm : ∀ x ∈ m, SPcB x) (ll : l.length ≤ 9223372036854775807) (lm : m.length ≤ 9223372036854775807)
    (rn : NumRow w vn ns) (bn : ∀ x ∈ ns, 0 ≤ x ∧ x < 4294967296) (ln : ns.length ≤ 9223372036854775807) :
    Gives Tryz.prog 7 #[vl, vm, vn] w (.bool true) := by
  have m1 := fun (W : World) (u : UpI w W) => made_row l vl W (rl.up u.up) bl ll
  have m2 := fun (W : World) (u : UpI w W) => made_row m vm W (rm.up u.up) bm lm
  have ha := RS.made bl
  have hb := RS.made bm
  obtain ⟨pl, cl, hvl, _⟩ := rl
  obtain ⟨pm, cm, hvm, _⟩ := rm
  have Rn := Lib.hid rn
  obtain ⟨pn, cn, rfl, hnc, _⟩ := rn
  have Hvl := Lib.hid hvl; have Hvm := Lib.hid hvm
  clear bl bm hvl hvm
  generalize madeS l = a at *
  generalize madeS m = b at *
  have alg := Lib.hid (alg_of ha hb)
  have hU := ha.union hb
  have hC := ha.common hb
  have hW := ha.without hb
  have hX := ha.others
  have hY := hb.others
  have e1 := others_union ha.r hb.r ha.b hb.b
  have e2 := common_others ha.r hb.r ha.b
  have e3 := others_others ha.r ha.b
  have e4 := without_nil ha.r hb.r ha.b hb.b
  have k1 := fun (v : Value) (W : World) (h : SpRow W v (unionL a b)) => (e1 ▸ others_row (unionL a b) v W h hU (by decide) : GivesL 16 #[v] W (commonL (othersL a) (othersL b)))
  have k2 := fun (v u : Value) (W : World) (h : SpRow W v (othersL a)) (k : SpRow W u (othersL b)) => common_row (othersL a) (othersL b) v u W h k hX hY (by decide) (by decide)
  have k3 := fun (v u : Value) (W : World) (h : SpRow W v a) (k : SpRow W u (othersL b)) => (e2 ▸ common_row a (othersL b) v u W h k ha hY (by decide) (by decide) : GivesL 14 #[v, u] W (withoutL a b))
  have k4 := fun (v : Value) (W : World) (h : SpRow W v (othersL a)) => (by have h4 := others_row (othersL a) v W h hX (by decide); rw [e3] at h4; exact h4 : GivesL 16 #[v] W a)
  obtain ⟨q, hq⟩ : ∃ q, decide (withoutL a b = []) = q := ⟨_, rfl⟩
  have k5 := fun (v u : Value) (W : World) (h : SpRow W v a) (k : SpRow W u b) => (spwithin_yes a b v u W h k ha.r hb.r ha.b hb.b (by have := ha.l; omega) (by have := hb.l; omega)).cast (v := .tuple #[.bool q, .int .i64 0]) (by rw [hq])
  have k6 := fun (v u : Value) (W : World) (h : SpRow W v (unionL a b)) (k : SpRow W u b) => (same_any _ _ v u W h k (by have := hU.l; omega) (by have := hb.l; omega)).cast (v := .bool q) (by rw [← hq]; congr 1; exact decide_eq_decide.2 e4.symm)
  have s1 := fun (v u : Value) (W : World) (h : SpRow W v (commonL (othersL a) (othersL b))) (k : SpRow W u (commonL (othersL a) (othersL b))) => same_yes _ v u W h k (by have := (hX.common hY).l; omega)
  have s2 := fun (v u : Value) (W : World) (h : SpRow W v (withoutL a b)) (k : SpRow W u (withoutL a b)) => same_yes _ v u W h k (by have := hW.l; omega)
  have s3 := fun (v u : Value) (W : World) (h : SpRow W v a) (k : SpRow W u a) => same_yes _ v u W h k (by have := ha.l; omega)
  have tq : (((withoutL a b).length : Int) == 0) = q := by rw [← hq]; cases withoutL a b <;> simp; omega
  have Hq := Lib.hid hq; have Htq := Lib.hid tq
  have Ha := Lib.hid ha; have Hb := Lib.hid hb; have HU := Lib.hid hU; have HC := Lib.hid hC; have HW := Lib.hid hW; have HX := Lib.hid hX; have HY := Lib.hid hY
  have la := ha.l; have lb := hb.l
  clear ha hb hU hC hW hX hY e1 e2 e3 e4 hq
  generalize commonL (othersL a) (othersL b) = P at *
  unfold Gives
  go_enter Tryz.func7, Tryz.ntmps7
  go_wp2_with (first
    | (go_at_call 11; refine (spawake_any _ g).mono ?_; rintro e w' ⟨rfl, x0, rfl⟩)
    | (go_at_call 12; (with_reducible refine (m1 x0.w inferInstance).mono ?_); clear m1; rintro e w' ⟨pa, ca, rfl, Ra, xa, rfl⟩)
    | (go_at_call 12; (with_reducible refine (m2 xa.w inferInstance).mono ?_); clear m2; rintro e w' ⟨pb, cb, rfl, Rb, xb, rfl⟩)
    | (go_at_call 13; (with_reducible refine Calls.mono (union_row a b _ _ xb.w (Ra.out.up upI) Rb.out Ha.out Hb.out (by decide) (by decide)) ?_); rintro e w' ⟨pu, cu, rfl, Ru, xu, rfl⟩)
    | (go_at_call 14; (with_reducible refine Calls.mono (common_row a b _ _ xu.w (Ra.out.up upI) (Rb.out.up upI) Ha.out Hb.out (by decide) (by decide)) ?_); rintro e w' ⟨pc, cc, rfl, Rc, xc, rfl⟩)
    | (go_at_call 15; (with_reducible refine Calls.mono (without_row a b _ _ xc.w (Ra.out.up upI) (Rb.out.up upI) Ha.out Hb.out (by decide) (by decide)) ?_); rintro e w' ⟨pw, cw, rfl, Rw, xw, rfl⟩)
    | (go_at_call 16; (with_reducible refine Calls.mono (others_row a _ xw.w (Ra.out.up upI) Ha.out (by decide)) ?_); rintro e w' ⟨px, cx, rfl, Rx, xx, rfl⟩)
    | (go_at_call 16; (with_reducible refine Calls.mono (others_row b _ xx.w (Rb.out.up upI) Hb.out (by decide)) ?_); rintro e w' ⟨py, cy, rfl, Ry, xy, rfl⟩)
    | (go_at_call 16; (with_reducible refine Calls.mono (k1 _ xy.w (Ru.out.up upI)) ?_); clear k1; rintro e w' ⟨pz, cz, rfl, Rz, xz, rfl⟩)
    | (go_at_call 14; (with_reducible refine Calls.mono (k2 _ _ xz.w (Rx.out.up upI) (Ry.out.up upI)) ?_); clear k2; rintro e w' ⟨pz', cz', rfl, Rz', xz', rfl⟩)
    | (go_at_call 14; (with_reducible refine Calls.mono (k3 _ _ xz'.w (Ra.out.up upI) (Ry.out.up upI)) ?_); clear k3; rintro e w' ⟨pd, cd, rfl, Rd, xd, rfl⟩)
    | (go_at_call 16; (with_reducible refine Calls.mono (k4 _ xd.w (Rx.out.up upI)) ?_); clear k4; rintro e w' ⟨pk, ck, rfl, Rk, xk, rfl⟩)
    | (go_at_call 19; refine (k5 _ _ xk.w (Ra.out.up upI) (Rb.out.up upI)).mono ?_; clear k5; rintro e w' ⟨rfl, xi, rfl⟩)
    | (go_at_call 26; refine (s1 _ _ xi.w (Rz.out.up upI) (Rz'.out.up upI)).mono ?_; clear s1; rintro e w' ⟨rfl, xs1, rfl⟩)
    | (go_at_call 26; refine (s2 _ _ xs1.w (Rd.out.up upI) (Rw.out.up upI)).mono ?_; clear s2; rintro e w' ⟨rfl, xs2, rfl⟩)
    | (go_at_call 26; refine (s3 _ _ xs2.w (Rk.out.up upI) (Ra.out.up upI)).mono ?_; clear s3; rintro e w' ⟨rfl, xs3, rfl⟩)
    | (go_at_call 26; refine (k6 _ _ xs3.w (Ru.out.up upI) (Rb.out.up upI)).mono ?_; clear k6; rintro e w' ⟨rfl, xs4, rfl⟩))
  clear Rz Rz' Rd Rk
  have Sets := Lib.hid (show ∀ x ∈ ([(.slice pu (unionL a b).length cu, unionL a b), (.slice pc (commonL a b).length cc, commonL a b), (.slice pw (withoutL a b).length cw, withoutL a b), (.slice px (othersL a).length cx, othersL a), (.slice py (othersL b).length cy, othersL b)] : List VS), SpRow xs4.w x.1 x.2 ∧ RS 4096 x.2 by
    intro x hx
    simp only [List.mem_cons, List.mem_nil_iff, or_false] at hx
    rcases hx with rfl | rfl | rfl | rfl | rfl
    · exact ⟨Ru.out.up upI, HU.out.mono (by decide)⟩
    · exact ⟨Rc.out.up upI, HC.out.mono (by decide)⟩
    · exact ⟨Rw.out.up upI, HW.out.mono (by decide)⟩
    · exact ⟨Rx.out.up upI, HX.out.mono (by decide)⟩
    · exact ⟨Ry.out.up upI, HY.out.mono (by decide)⟩)
  have RA := Lib.hid (Ra.out.up (upI : Up xa.w xs4.w)); have RB := Lib.hid (Rb.out.up (upI : Up xb.w xs4.w))
  have RU := Lib.hid (Ru.out.up (upI : Up xu.w xs4.w)); have RC := Lib.hid (Rc.out.up (upI : Up xc.w xs4.w)); have RD := Lib.hid (Rw.out.up (upI : Up xw.w xs4.w)); have RX := Lib.hid (Rx.out.up (upI : Up xx.w xs4.w))
  have RN := Lib.hid (Rn.out.up (upI : Up w xs4.w))
  clear Ra Rb Ru Rc Rw Rx Rn Ry HY
  generalize unionL a b = U at *
  generalize commonL a b = C at *
  generalize withoutL a b = D at *
  generalize othersL a = X at *
  generalize othersL b = Y at *
  obtain ⟨A, hA⟩ : ∃ A, xs4.w.heap.size = A := ⟨_, rfl⟩
  refine wp_letterS (fun Z => Up xs4.w Z ∧ Z.heap[A]? = some (.cells #[.slice pu U.length cu, .slice pc C.length cc, .slice pw D.length cw, .slice px X.length cx, .slice py Y.length cy] 25 (0, 0))) ?hst ?_
  case hst =>
    subst hA
    exact ⟨(Up.refl _).alloc _, by rw [alloc_get, if_pos rfl]⟩
  rw [hA]
  rintro Z ⟨uZ, hZ⟩
  obtain ⟨sets, hsets⟩ : ∃ sets : List VS, sets = [(.slice pu U.length cu, U), (.slice pc C.length cc, C), (.slice pw D.length cw, D), (.slice px X.length cx, X), (.slice py Y.length cy, Y)] := ⟨_, rfl⟩
  rw [← hsets] at Sets
  have hlen : sets.length = 5 := by rw [hsets]; rfl
  have hcells : #[.slice pu U.length cu, .slice pc C.length cc, .slice pw D.length cw, .slice px X.length cx, .slice py Y.length cy] = (sets.map Prod.fst).toArray := by rw [hsets]; rfl
  rw [hcells] at hZ
  have Hlen := Lib.hid hlen
  have Hxo := Lib.hid (show Up w xs4.w from upI)
  clear hcells hsets hlen
  go_loopw [156] (fun i wr => ∃ (k : Nat), k ≤ 5 ∧ i = .int .i64 (k : Int) ∧ wr.heap[A]? = some (.cells (sets.map Prod.fst).toArray 25 (0, 0)) ∧ Up xs4.w wr) (fun i _ => 5 - (intOf i).toNat)
  case atStart => exact ⟨0, Nat.zero_le _, rfl, hZ, uZ⟩
  case round =>
    clear hZ
    obtain ⟨k, hk, rfl, h1, hup⟩ := hrel
    haveI : UpI xs4.w wr := ⟨hup⟩
    haveI : UpI w wr := ⟨Hxo.out.trans hup⟩
    haveI : LtSize A wr := ⟨heap_lt h1⟩
    by_cases hlt : k < 5
    · have hlt' : (k : Int) < 5 := by omega
      have k0 : (0 : Int) ≤ (k : Int) := by omega
      obtain ⟨⟨v, L⟩, hx⟩ : ∃ x, sets[k]? = some x := ⟨_, List.getElem?_eq_getElem (by rw [Hlen.out]; exact hlt)⟩
      obtain ⟨hrow, hrs⟩ := Sets.out _ (List.mem_of_getElem? hx)
      have c0 : wr.cell? ⟨A, k, none⟩ = some v := by rw [cell_of_cells h1]; simp [hx]
      have hR := fun (W : World) (u : UpI xs4.w W) => (spright_any L v W (hrow.up u.up) hrs.b (Nat.le_trans hrs.l (by decide))).cast (v := .bool true) (by rw [hrs.r])
      have H1 := Lib.hid h1
      clear h1 hx hrow hrs
      go_wp2_with (go_at_call 23; refine (hR _ inferInstance).mono ?_; clear hR; rintro e w' ⟨rfl, y, rfl⟩)
      go_roundw
      case rel => exact ⟨k + 1, by omega, by go_num, (y.up.block A (heap_lt H1.out)).trans H1.out, hup.trans y.up⟩
      case measure => simp [intOf]; omega
    · obtain rfl : k = 5 := by omega
      clear h1 Sets
      obtain ⟨N, hN⟩ : ∃ N, min ns.length 100 = N := ⟨_, rfl⟩
      have hmin : min (ns.length : Int) 100 = (N : Int) := by omega
      have hN40 : N ≤ 100 := by omega
      have hNL : N ≤ ns.length := by omega
      have hNc : (N : Int) ≤ (cn : Int) := by omega
      have RN' := Lib.hid (RN.out.take N hNL)
      have BN := Lib.hid (show ∀ x ∈ ns.take N, 0 ≤ x ∧ x < 4294967296 from fun x hx => bn x (List.mem_of_mem_take hx))
      have HT := Lib.hid (show (ns.take N).length = N by rw [List.length_take]; omega)
      clear RN hN bn
      generalize ns.take N = nt at *
      obtain ⟨i0, hi, hy0, hy1, hy2⟩ := info_parts infoU32
      have Hi := Lib.hid hi; have Hy0 := Lib.hid hy0; have Hy1 := Lib.hid hy1; have Hy2 := Lib.hid hy2
      clear hi hy0 hy1 hy2
      go_wp2_with (at_builtin; refine wpList_append_list (cells := u32Cells) (k := 1) u32_length u32_one (by decide) rfl _ _ 55 rfl xs4.w.heap.size 37 i0 (.int .u32 0) 4 Tryz.underlying55 Hi.out Hy0.out Hy1.out Hy2.out rfl [0, 4294967295] _ rfl (owns_two wr _ _ _ hup.size) nt _ rfl (RN'.out.up upI) (by rw [HT.out]; unfold maxLen; simp; omega) (by rw [HT.out]; simp; omega) (by have := hup.size; simp; omega) ?_; intro v' w1 hown' hgrow)
      have hup1 : Up xs4.w w1 := ((upI : Up xs4.w _)).grown hgrow (owns_row (owns_two wr xs4.w.heap.size 0 4294967295 hup.size))
      haveI : UpI xs4.w w1 := ⟨hup1⟩
      obtain ⟨P0, hP0⟩ : ∃ P0, [0, 4294967295] ++ nt = P0 := ⟨_, rfl⟩
      rw [hP0] at hown'
      have BP := Lib.hid (show ∀ x ∈ P0, 0 ≤ x ∧ x < 4294967296 by
        intro x hx
        rw [← hP0] at hx
        rcases List.mem_append.1 hx with hx | hx
        · simp at hx; omega
        · exact BN.out x hx)
      have LP : P0.length ≤ 102 := by rw [← hP0, List.length_append, HT.out]; simp; omega
      have HO1 := Lib.hid hown'
      clear hown' hgrow hP0 BN RN' HT
      obtain ⟨B, hB⟩ : ∃ B, w1.heap.size = B := ⟨_, rfl⟩
      refine wp_letterS (fun Z => Up w1 Z ∧ Z.heap[B]? = some (.cells #[.slice pa a.length ca, .slice pb b.length cb] 24 (0, 0))) ?hst2 ?_
      case hst2 =>
        subst hB
        exact ⟨(Up.refl _).alloc _, by rw [alloc_get, if_pos rfl]⟩
      rw [hB]
      rintro Y2 ⟨uY, hY2⟩
      obtain ⟨two, htwo⟩ : ∃ two : List VS, two = [(.slice pa a.length ca, a), (.slice pb b.length cb, b)] := ⟨_, rfl⟩
      have Two := Lib.hid (show ∀ x ∈ two, SpRow xs4.w x.1 x.2 ∧ RS 40 x.2 by
        intro x hx
        rw [htwo] at hx
        simp only [List.mem_cons, List.mem_nil_iff, or_false] at hx
        rcases hx with rfl | rfl
        · exact ⟨RA.out, Ha.out⟩
        · exact ⟨RB.out, Hb.out⟩)
      have hlen2 : two.length = 2 := by rw [htwo]; rfl
      have hcells2 : #[.slice pa a.length ca, .slice pb b.length cb] = (two.map Prod.fst).toArray := by rw [htwo]; rfl
      rw [hcells2] at hY2
      have Hlen2 := Lib.hid hlen2
      clear hcells2 htwo hlen2
      go_loopw [26, 175] (fun v i wr => ∃ (k : Nat) (L : List Int), k ≤ 2 ∧ i = .int .i64 (k : Int) ∧ L.length ≤ 102 + 160 * k ∧ Hid (∀ x ∈ L, 0 ≤ x ∧ x < 4294967296) ∧ Hid (wr.ownsRow xs4.w.heap.size 37 1 v L.length (L.flatMap u32Cells)) ∧ wr.heap[B]? = some (.cells (two.map Prod.fst).toArray 24 (0, 0)) ∧ Up xs4.w wr) (fun _ i _ => 2 - (intOf i).toNat)
      case atStart => exact ⟨0, P0, Nat.zero_le _, rfl, LP, BP, Lib.hid (owns_up HO1.out uY), hY2, hup1.trans uY⟩
      case round =>
        clear hY2 HO1 BP LP
        obtain ⟨k2, L, hk2, rfl, hL, BL, Hown, hB2, hup2⟩ := hrel
        haveI : UpI xs4.w wr := ⟨hup2⟩
        haveI : UpI w wr := ⟨Hxo.out.trans hup2⟩
        haveI : LtSize B wr := ⟨heap_lt hB2⟩
        by_cases hlt2 : k2 < 2
        · have hlt2' : (k2 : Int) < 2 := by omega
          have k20 : (0 : Int) ≤ (k2 : Int) := by omega
          obtain ⟨⟨vS, S⟩, hx⟩ : ∃ x, two[k2]? = some x := ⟨_, List.getElem?_eq_getElem (by rw [Hlen2.out]; exact hlt2)⟩
          obtain ⟨hrow, hrs⟩ := Two.out _ (List.mem_of_getElem? hx)
          have c0 : wr.cell? ⟨B, k2, none⟩ = some vS := by rw [cell_of_cells hB2]; simp [hx]
          obtain ⟨pS, cS, hvS⟩ := sp_len hrow
          simp only at hvS hrow hrs
          subst hvS
          have HS := Lib.hid (fun j x (h : S[j]? = some x) => sp_at hrow rfl h)
          have lS := hrs.l
          have HSb := Lib.hid hrs.b
          have HB2 := Lib.hid hB2
          obtain ⟨M, hM⟩ : ∃ M, S.length = M := ⟨_, rfl⟩
          have HM := Lib.hid hM
          rw [hM] at lS c0
          clear hx hrow hrs hB2 hM
          go_wp2_with fail
          go_loopw [26, 181] (fun v i wr => ∃ (j : Nat) (L : List Int), j ≤ M ∧ i = .int .i64 (j : Int) ∧ L.length ≤ 102 + 160 * k2 + 4 * j ∧ Hid (∀ x ∈ L, 0 ≤ x ∧ x < 4294967296) ∧ Hid (wr.ownsRow xs4.w.heap.size 37 1 v L.length (L.flatMap u32Cells)) ∧ wr.heap[B]? = some (.cells (two.map Prod.fst).toArray 24 (0, 0)) ∧ Up xs4.w wr) (fun _ i _ => M - (intOf i).toNat)
          case atStart => exact ⟨0, L, Nat.zero_le _, rfl, by omega, BL, Hown, HB2.out, hup2⟩
          case round =>
            clear hup2 Hown BL hL HB2 c0
            obtain ⟨j, L, hj, rfl, hL, BL, Hown, hB2, hup2⟩ := hrel
            haveI : UpI xs4.w wr := ⟨hup2⟩
            haveI : UpI w wr := ⟨Hxo.out.trans hup2⟩
            haveI : LtSize B wr := ⟨heap_lt hB2⟩
            have HB2 := Lib.hid hB2
            clear hB2
            by_cases hltj : j < M
            · have hltj' : (j : Int) < (M : Int) := by omega
              have j0 : (0 : Int) ≤ (j : Int) := by omega
              obtain ⟨x, hx⟩ : ∃ x, S[j]? = some x := ⟨_, List.getElem?_eq_getElem (by rw [HM.out]; exact hltj)⟩
              obtain ⟨bS, oS, rfl, hbS, q0, q1⟩ := HS.out j x hx
              have d0 := hup2.cell_some q0
              have d1 := hup2.cell_some q1
              haveI : LtSize bS wr := ⟨Nat.lt_of_lt_of_le hbS hup2.size⟩
              have Hxb := Lib.hid (HSb.out x (List.mem_of_getElem? hx))
              clear hx q0 q1
              go_wp2_with (at_builtin; go_loud (refine wpList_append_list (cells := u32Cells) (k := 1) u32_length u32_one (by decide) rfl _ _ 55 rfl xs4.w.heap.size 37 i0 (.int .u32 0) 4 Tryz.underlying55 Hi.out Hy0.out Hy1.out Hy2.out rfl L _ rfl (owns_up Hown.out (upI : Up wr _)) [x.1, x.2, (x.1 - 1) % 4294967296, (x.2 + 1) % 4294967296] _ rfl (num4_row (wr.alloc (.cells #[.int .u32 x.1, .int .u32 x.2] 39)) _ _ _ _ _ (by simp)) (by unfold maxLen; simp; omega) (by simp; omega) (by have := hup2.size; simp; omega) ?_); intro v' w1 hown' hgrow)
              have hup3 : Up xs4.w w1 := ((upI : Up xs4.w _)).grown hgrow (owns_row Hown.out)
              have hB3 := (hgrow.block B (by have := heap_lt HB2.out; simp; omega) (owns_notB Hown.out HB2.out (by decide))).trans ((((Up.refl wr).alloc _).alloc _).block B (heap_lt HB2.out) |>.trans HB2.out)
              have BL' := Lib.hid (show ∀ y ∈ L ++ [x.1, x.2, (x.1 - 1) % 4294967296, (x.2 + 1) % 4294967296], 0 ≤ y ∧ y < 4294967296 by
                intro y hy
                obtain ⟨f0, f1, t0, t1⟩ := Hxb.out
                rcases List.mem_append.1 hy with hy | hy
                · exact BL.out y hy
                · simp only [List.mem_cons, List.mem_nil_iff, or_false] at hy
                  rcases hy with rfl | rfl | rfl | rfl <;> omega)
              go_roundw
              case rel => exact ⟨j + 1, _, by omega, by go_num, by simp; omega, BL', Lib.hid hown', hB3, hup3⟩
              case measure => simp [intOf]; omega
            · obtain rfl : j = M := by omega
              go_wp2_with fail
              go_roundw
              case rel => exact ⟨k2 + 1, L, by omega, by go_num, by omega, BL, Hown, HB2.out, hup2⟩
              case measure => simp [intOf]; omega
        · have hn2 : ¬ ((k2 : Int) < 2) := by omega
          have hge2 : (2 : Int) ≤ (k2 : Int) := by omega
          clear hB2 Two
          obtain ⟨pL, cL, hvL⟩ := owns_sliceN Hown.out
          subst hvL
          have RL : NumRow wr (.slice pL L.length cL) L := RowOf.of_owns (cells := u32Cells) (k := 1) u32_length Hown.out
          have HLc := Lib.hid (show ∀ j x, L[j]? = some x → ∃ b o, pL = some ⟨b, o, none⟩ ∧ b < wr.heap.size ∧ wr.cell? ⟨b, o + j, none⟩ = some (.int .u32 x) by
            obtain ⟨p, c, he, _, hc⟩ := RL
            simp only [Value.slice.injEq, true_and] at he
            obtain ⟨rfl, rfl⟩ := he
            intro j x hx
            obtain ⟨b, o, hp, hb, h⟩ := hc j x hx
            refine ⟨b, o, hp, hb, ?_⟩
            have := h 0 _ rfl
            simpa using this)
          obtain ⟨M, hM⟩ : ∃ M, L.length = M := ⟨_, rfl⟩
          have HM := Lib.hid hM
          rw [hM] at hL
          clear Hown RL
          obtain ⟨W4, hW4⟩ : ∃ W4, wr = W4 := ⟨_, rfl⟩
          subst hW4
          have Hup4 := Lib.hid hup2
          clear hup2
          rw [hM]
          clear hM
          go_wp2_with fail
          go_loopw [202] (fun i Wm => ∃ (j : Nat), j ≤ M ∧ i = .int .i64 (j : Int) ∧ Up wr Wm) (fun i _ => M - (intOf i).toNat)
          case atStart => exact ⟨0, Nat.zero_le _, rfl, Up.refl _⟩
          case round =>
            obtain ⟨j, hj, rfl, hup5⟩ := hrel
            have hup6 := Hup4.out.trans hup5
            haveI : UpI _ wr := ⟨hup5⟩
            haveI : UpI xs4.w wr := ⟨hup6⟩
            haveI : UpI w wr := ⟨Hxo.out.trans hup6⟩
            by_cases hltj : j < M
            · have hltj' : (j : Int) < (M : Int) := by omega
              have j0 : (0 : Int) ≤ (j : Int) := by omega
              obtain ⟨n, hx⟩ : ∃ x, L[j]? = some x := ⟨_, List.getElem?_eq_getElem (by rw [HM.out]; exact hltj)⟩
              obtain ⟨bS, oS, rfl, hbS, q0⟩ := HLc.out j n hx
              have d0 := hup5.cell_some q0
              haveI : LtSize bS wr := ⟨Nat.lt_of_lt_of_le hbS hup5.size⟩
              obtain ⟨n0, n1⟩ := BL.out n (List.mem_of_getElem? hx)
              obtain ⟨p, hp⟩ : ∃ p, hasS a n = p := ⟨_, rfl⟩
              obtain ⟨q', hq'⟩ : ∃ q', hasS b n = q' := ⟨_, rfl⟩
              have e3 := alg.out.u n
              have e4 := alg.out.c n
              have e5 := alg.out.d n
              have e6 := alg.out.x n n0 n1
              rw [hp, hq'] at e3 e4 e5
              rw [hp] at e6
              have h1 := fun (W : World) (u : UpI xs4.w W) => (sphas_any a n _ W (RA.out.up u.up) (by omega)).cast (v := .bool p) (by rw [hp])
              have h2 := fun (W : World) (u : UpI xs4.w W) => (sphas_any b n _ W (RB.out.up u.up) (by omega)).cast (v := .bool q') (by rw [hq'])
              have h3 := fun (W : World) (u : UpI xs4.w W) => (sphas_any U n _ W (RU.out.up u.up) (Nat.le_trans HU.out.l (by decide))).cast (v := .bool (p || q')) (by rw [e3])
              have h4 := fun (W : World) (u : UpI xs4.w W) => (sphas_any C n _ W (RC.out.up u.up) (Nat.le_trans HC.out.l (by decide))).cast (v := .bool (p && q')) (by rw [e4])
              have h5 := fun (W : World) (u : UpI xs4.w W) => (sphas_any D n _ W (RD.out.up u.up) (Nat.le_trans HW.out.l (by decide))).cast (v := .bool (p && !q')) (by rw [e5])
              have h6 := fun (W : World) (u : UpI xs4.w W) => (sphas_any X n _ W (RX.out.up u.up) (Nat.le_trans HX.out.l (by decide))).cast (v := .bool (!p)) (by rw [e6])
              clear hx q0 e3 e4 e5 e6 hp hq' n0 n1
              cases p <;> cases q' <;> simp only [Bool.or_true, Bool.true_or, Bool.or_false, Bool.false_or, Bool.and_true, Bool.true_and, Bool.and_false, Bool.false_and, Bool.not_true, Bool.not_false] at h1 h2 h3 h4 h5 h6
              all_goals
                go_wp2_with (first
                    | (go_at_call 25; refine (h1 _ inferInstance).mono ?_; clear h1; rintro e w' ⟨rfl, y1, rfl⟩)
                    | (go_at_call 25; refine (h2 _ inferInstance).mono ?_; clear h2; rintro e w' ⟨rfl, y2, rfl⟩)
                    | (go_at_call 25; refine (h3 _ inferInstance).mono ?_; clear h3; rintro e w' ⟨rfl, y3, rfl⟩)
                    | (go_at_call 25; refine (h4 _ inferInstance).mono ?_; clear h4; rintro e w' ⟨rfl, y4, rfl⟩)
                    | (go_at_call 25; refine (h5 _ inferInstance).mono ?_; clear h5; rintro e w' ⟨rfl, y5, rfl⟩)
                    | (go_at_call 25; refine (h6 _ inferInstance).mono ?_; clear h6; rintro e w' ⟨rfl, y6, rfl⟩))
                go_roundw
                case rel => exact ⟨j + 1, by omega, by go_num, upI⟩
                case measure => simp [intOf]; omega
            · obtain rfl : j = M := by omega
              go_wp2_with fail
              go_ret
              exact ⟨rfl, mkI⟩
end Go.Proofs.YtgfkcbflnkpogaaGreatDoor
