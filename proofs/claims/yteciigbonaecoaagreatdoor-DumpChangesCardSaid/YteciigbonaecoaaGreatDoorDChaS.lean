/- DumpChanges, walked. -/
import Derived.Test.YteciigbonaecoaaGreatDoorFast
import Derived.Test.YteciigbonaecoaaGreatDoorDChaP
namespace Go.Proofs.YteciigbonaecoaaGreatDoor
open Go.RowKit Go.Ab
theorem lt_of_heapC {w : World} {p : Nat} {o : Obj} (h : w.heap[p]? = some o) : p < w.heap.size := (Array.getElem?_eq_some_iff.1 h).1
theorem pred_nums (k n : Nat) (h : k < n) (h0 : 0 < k) (hn : n ≤ 60) : ∃ m : Nat, k = m + 1 ∧ (0 : Int) < (k : Int) ∧ (k : Int) - 1 = (m : Int) ∧ (0 : Int) ≤ (m : Int) ∧ (m : Int) < (n : Int) ∧ SmallN m ∧ m < n :=
  ⟨k - 1, by omega, by omega, by omega, by omega, by omega, ⟨by omega⟩, by omega⟩
attribute [local go_sem high] eq_ln eq_ch eq_key wrapI wrapK
/-- What is said. -/
def DChaStmt : Prop := ∀ (l1 l2 : List Wd) (v1 v2 : Value) (w : World), GoodD w → WdRow w v1 l1 → WdRow w v2 l2 → (∀ x ∈ l1, WdB x) → (∀ x ∈ l2, WdB x) → l1.length ≤ 9223372036854775807 → l2.length ≤ 9223372036854775807 →
    Gives Tryz.prog 6 #[v1, v2] w (.bool true)
set_option maxHeartbeats 64000000 in
set_option maxRecDepth 100000 in
/-- The walk up to the loop's test on the keys' order: what is left is a statement, kept as data. -/
noncomputable def dchaPart : PSigma (fun R : Prop => R → DChaStmt) := by
  apply PSigma.mk
  case snd =>
    intro hR l1 l2 v1 v2 w g hv1 hv2 hb1 hb2 hl1 hl2
    have hL : ∀ (l : List Wd) (v : Value), WdRow w v l → (∀ x ∈ l, WdB x) → l.length ≤ 9223372036854775807 → ∀ N, (listL l).length = N → ∀ W, UpI w W → Calls Tryz.prog 18 #[v] W fun e w' => ∃ q c, e = .returned (.slice q N c) ∧ LnRow w' (.slice q N c) (listL l) ∧ ∃ x : Ext W, w' = x.w := fun l v hv hb hl N hN W hW => (dlist_any l v W (hv.up hW.up) hb hl).mono fun e w' ⟨u, h1, h2, h3⟩ => by
      have h4 := RowOf.of_owns Ln.cells_length h2
      have h5 := h4
      obtain ⟨q, c, rfl, _⟩ := h5
      rw [hN] at h1 h4
      exact ⟨q, c, h1, h4, h3⟩
    obtain ⟨NA, hNA⟩ : ∃ N, (listL l1).length = N := ⟨_, rfl⟩
    obtain ⟨NB, hNB⟩ : ∃ N, (listL l2).length = N := ⟨_, rfl⟩
    have hLa := hL l1 v1 hv1 hb1 hl1 NA hNA
    have hLb := hL l2 v2 hv2 hb2 hl2 NB hNB
    have ba := listL_b l1 hb1
    have bb := listL_b l2 hb2
    have oa := listL_ordered l1 hb1
    have ob := listL_ordered l2 hb2
    have la := listL_len l1
    have lb := listL_len l2
    clear hL hv1 hv2 hb1 hb2 hl1 hl2
    generalize listL l1 = a at *
    generalize listL l2 = b at *
    have sa := srt_of_ordered a oa
    have sb := srt_of_ordered b ob
    obtain ⟨C, hC⟩ : ∃ C, diffL a b = C := ⟨_, rfl⟩
    obtain ⟨n, hn⟩ : ∃ n, C.length = n := ⟨_, rfl⟩
    have hCl := diffL_len a b
    rw [hC, hn] at hCl
    have hn60 : n ≤ 60 := by omega
    have hback : diffL b a = C.map Ch.back := by rw [diff_back, hC]
    have hself : diffL a a = [] := diff_self _ _
    have hok : ∀ x ∈ C, ChOk a b x := fun x hx => diffL_ok a b sa sb x (by rw [hC]; exact hx)
    have hok2 : ∀ x ∈ C.map Ch.back, ChOk b a x := fun x hx => diffL_ok b a sb sa x (by rw [hback]; exact hx)
    have hnil : (C = [] ↔ a = b) := by rw [← hC]; exact diffL_nil a b oa ob
    have hlt : ∀ (m : Nat) (x y : Ch), C[m]? = some y → C[m + 1]? = some x → (chLn y).cmp (chLn x) < 0 := fun m x y hy hx => diff_lt sa sb (by rw [hC]; exact hy) (by rw [hC]; exact hx)
    have chrow : ∀ (W : World) (base : Nat) (u : Value) (D : List Ch), W.ownsRow base 71 23 u D.length (D.flatMap Ch.cells) → ∃ q c, u = .slice q D.length c ∧ ChRow W (.slice q D.length c) D := fun W base u D h => by
      have h4 := RowOf.of_owns Ch.cells_length h
      have h5 := h4
      obtain ⟨q, c, rfl, _⟩ := h5
      exact ⟨q, c, rfl, h4⟩
    have lnrow : ∀ (W : World) (base : Nat) (u : Value) (D : List Ln), W.ownsRow base 44 11 u D.length (D.flatMap Ln.cells) → ∃ q c, u = .slice q D.length c ∧ LnRow W (.slice q D.length c) D := fun W base u D h => by
      have h4 := RowOf.of_owns Ln.cells_length h
      have h5 := h4
      obtain ⟨q, c, rfl, _⟩ := h5
      exact ⟨q, c, rfl, h4⟩
    have hDab : ∀ (W : World) (va vb : Value), LnRow W va a → LnRow W vb b → Calls Tryz.prog 19 #[va, vb] W fun e w' => ∃ q c, e = .returned (.tuple #[.slice q n c, .int .i64 0]) ∧ ChRow w' (.slice q n c) C ∧ ∃ x : Ext W, w' = x.w := fun W va vb ra rb => (ddiff_yes a b va vb W ra rb ba bb (by omega) (by omega) oa ob).mono fun e w' ⟨u, h1, h2, h3⟩ => by
      rw [hC] at h2
      obtain ⟨q, c, rfl, h4⟩ := chrow _ _ _ _ h2
      rw [hn] at h1 h4
      exact ⟨q, c, h1, h4, h3⟩
    have hDba : ∀ (W : World) (va vb : Value), LnRow W va a → LnRow W vb b → Calls Tryz.prog 19 #[vb, va] W fun e w' => ∃ q c, e = .returned (.tuple #[.slice q n c, .int .i64 0]) ∧ ChRow w' (.slice q n c) (C.map Ch.back) ∧ ∃ x : Ext W, w' = x.w := fun W va vb ra rb => (ddiff_yes b a vb va W rb ra bb ba (by omega) (by omega) ob oa).mono fun e w' ⟨u, h1, h2, h3⟩ => by
      rw [hback] at h2
      obtain ⟨q, c, rfl, h4⟩ := chrow _ _ _ _ h2
      rw [List.length_map, hn] at h1 h4
      exact ⟨q, c, h1, h4, h3⟩
    have hDaa : ∀ (W : World) (va : Value), LnRow W va a → Calls Tryz.prog 19 #[va, va] W fun e w' => ∃ q c, e = .returned (.tuple #[.slice q 0 c, .int .i64 0]) ∧ ∃ x : Ext W, w' = x.w := fun W va ra => (ddiff_yes a a va va W ra ra ba ba (by omega) (by omega) oa oa).mono fun e w' ⟨u, h1, h2, h3⟩ => by
      rw [hself] at h2
      obtain ⟨q, c, rfl, h4⟩ := chrow _ _ _ _ h2
      exact ⟨q, c, h1, h3⟩
    have hAab : ∀ (W : World) (va vc : Value), LnRow W va a → ChRow W vc C → Calls Tryz.prog 20 #[va, vc] W fun e w' => ∃ q c, e = .returned (.tuple #[.slice q NB c, .int .i64 0]) ∧ LnRow w' (.slice q NB c) b ∧ ∃ x : Ext W, w' = x.w := fun W va vc ra rc => (apply_any a C va vc W ra rc ba (fun x hx => new_b bb (hok x hx)) (by omega) (by omega)).mono fun e w' ⟨⟨L, p1, p2, h⟩, hx⟩ => by
      rw [← hC] at p1
      obtain ⟨rfl, hB⟩ := apply_diff a b L oa ob p1 p2
      rw [hC] at hB
      rcases h with ⟨_, u, h1, h2⟩ | ⟨h1, _⟩
      · obtain ⟨q, c, rfl, h4⟩ := lnrow _ _ _ _ h2
        rw [hNB] at h1 h4
        exact ⟨q, c, h1, h4, hx⟩
      · rw [hB] at h1; cases h1
    have hAba : ∀ (W : World) (vb vc : Value), LnRow W vb b → ChRow W vc (C.map Ch.back) → Calls Tryz.prog 20 #[vb, vc] W fun e w' => ∃ q c, e = .returned (.tuple #[.slice q NA c, .int .i64 0]) ∧ LnRow w' (.slice q NA c) a ∧ ∃ x : Ext W, w' = x.w := fun W vb vc rb rc => (apply_any b (C.map Ch.back) vb vc W rb rc bb (fun x hx => new_b ba (hok2 x hx)) (by omega) (by rw [List.length_map]; omega)).mono fun e w' ⟨⟨L, p1, p2, h⟩, hx⟩ => by
      rw [← hback] at p1
      obtain ⟨rfl, hB⟩ := apply_diff b a L ob oa p1 p2
      rw [hback] at hB
      rcases h with ⟨_, u, h1, h2⟩ | ⟨h1, _⟩
      · obtain ⟨q, c, rfl, h4⟩ := lnrow _ _ _ _ h2
        rw [hNA] at h1 h4
        exact ⟨q, c, h1, h4, hx⟩
      · rw [hB] at h1; cases h1
    obtain ⟨sab, hsab⟩ : ∃ s, (a == b) = s := ⟨_, rfl⟩
    have hn0 : ((n : Int) == 0) = sab := by
      rw [← hsab, Bool.eq_iff_iff]
      simp only [beq_iff_eq]
      rw [← hnil, ← hn]
      constructor
      · intro h; exact List.length_eq_zero_iff.1 (by omega)
      · intro h; rw [h]; rfl
    have hS : ∀ (x y : List Ln) (W : World) (va vb : Value), x.length ≤ 30 → y.length ≤ 30 → LnRow W va x → LnRow W vb y → Gives Tryz.prog 21 #[va, vb] W (.bool (x == y)) := fun x y W va vb hx hy rx ry => dsame_any x y va vb W rx ry (by omega) (by omega)
    have hSa : ∀ (W : World) (va vb : Value), LnRow W va a → LnRow W vb a → Gives Tryz.prog 21 #[va, vb] W (.bool true) := fun W va vb rx ry => (hS a a W va vb (by omega) (by omega) rx ry).cast (by rw [beq_self_eq_true])
    have hSb : ∀ (W : World) (va vb : Value), LnRow W va b → LnRow W vb b → Gives Tryz.prog 21 #[va, vb] W (.bool true) := fun W va vb rx ry => (hS b b W va vb (by omega) (by omega) rx ry).cast (by rw [beq_self_eq_true])
    have hSab : ∀ (W : World) (va vb : Value), LnRow W va a → LnRow W vb b → Gives Tryz.prog 21 #[va, vb] W (.bool sab) := fun W va vb rx ry => (hS a b W va vb (by omega) (by omega) rx ry).cast (by rw [hsab])
    have hH : ∀ (z : List Ln) (x : Ln) (W : World) (v : Value), z.length ≤ 30 → LnRow W v z → Gives Tryz.prog 22 #[v, .agg x.cells.toArray] W (.tuple #[.bool (hasL z x).1, .bool (hasL z x).2]) := fun z x W v hz rv => dhas_any z x v W rv (by omega)
    have HOK := Lib.hid hok; have HLT := Lib.hid hlt; have HNA := Lib.hid (show a.length ≤ 30 by omega); have HNB := Lib.hid (show b.length ≤ 30 by omega); have HSA := Lib.hid sa; have HSB := Lib.hid sb; have HBA := Lib.hid ba; have HBB := Lib.hid bb; have HN := Lib.hid hn
    clear hok hok2 hlt ba bb oa ob la lb sa sb hC hback hself hnil hsab hNA hNB hCl hn chrow lnrow hS
    unfold Gives
    go_enter Tryz.func6, Tryz.ntmps6
    go_upto_region 4 with (first
      | (go_at_call 11; refine (dawake_any _ (g.up upI)).mono ?_; rintro e w' ⟨rfl, xa, rfl⟩)
      | (go_at_call 18; (with_reducible refine (hLa _ inferInstance).mono ?_); rintro e w' ⟨qa, ca, rfl, ra, z1, rfl⟩)
      | (go_at_call 18; (with_reducible refine (hLb _ inferInstance).mono ?_); rintro e w' ⟨qb, cb, rfl, rb, z2, rfl⟩))
    have hD1 := fun (W : World) [UpI z2.w W] => hDab W (.slice qa NA ca) (.slice qb NB cb) (RowOf.up ra ((upI : Up z1.w z2.w).trans upI)) (RowOf.up rb upI)
    have hD2 := fun (W : World) [UpI z2.w W] => hDba W (.slice qa NA ca) (.slice qb NB cb) (RowOf.up ra ((upI : Up z1.w z2.w).trans upI)) (RowOf.up rb upI)
    have hD3 := fun (W : World) [UpI z2.w W] => hDaa W (.slice qa NA ca) (RowOf.up ra ((upI : Up z1.w z2.w).trans upI))
    clear hDab hDba hDaa hLa hLb
    go_upto_region 7 with (first
      | (go_at_call 19; (with_reducible refine (hD1 _).mono ?_); rintro e w' ⟨q7, c7, rfl, r7, z3, rfl⟩)
      | (go_at_call 19; (with_reducible refine (hD2 _).mono ?_); rintro e w' ⟨q9, c9, rfl, r9, z4, rfl⟩)
      | (go_at_call 19; (with_reducible refine (hD3 _).mono ?_); rintro e w' ⟨q11, c11, rfl, z5, rfl⟩))
    have hA1 := fun (W : World) [UpI z5.w W] => hAab W (.slice qa NA ca) (.slice q7 n c7) (RowOf.up ra ((upI : Up z1.w z5.w).trans upI)) (RowOf.up r7 ((upI : Up z3.w z5.w).trans upI))
    have hA2 := fun (W : World) [UpI z5.w W] => hAba W (.slice qb NB cb) (.slice q9 n c9) (RowOf.up rb ((upI : Up z2.w z5.w).trans upI)) (RowOf.up r9 ((upI : Up z4.w z5.w).trans upI))
    clear hD1 hD2 hD3 hAab hAba
    go_upto_region 9 with (first
      | (go_at_call 20; (with_reducible refine (hA1 _).mono ?_); rintro e w' ⟨q13, c13, rfl, r13, z6, rfl⟩)
      | (go_at_call 20; (with_reducible refine (hA2 _).mono ?_); rintro e w' ⟨q15, c15, rfl, r15, z7, rfl⟩))
    have hS1 := fun (W : World) [UpI z7.w W] => hSab W (.slice qa NA ca) (.slice qb NB cb) (RowOf.up ra ((upI : Up z1.w z7.w).trans upI)) (RowOf.up rb ((upI : Up z2.w z7.w).trans upI))
    have hS2 := fun (W : World) [UpI z7.w W] => hSb W (.slice q13 NB c13) (.slice qb NB cb) (RowOf.up r13 ((upI : Up z6.w z7.w).trans upI)) (RowOf.up rb ((upI : Up z2.w z7.w).trans upI))
    have hS3 := fun (W : World) [UpI z7.w W] => hSa W (.slice q15 NA c15) (.slice qa NA ca) (RowOf.up r15 upI) (RowOf.up ra ((upI : Up z1.w z7.w).trans upI))
    clear hA1 hA2 hSab hSb hSa
    go_upto_region 13 with (first
      | (go_at_call 21; (with_reducible refine (hS1 _).mono ?_); rintro e w' ⟨rfl, z8, rfl⟩)
      | (go_at_call 21; (with_reducible refine (hS2 _).mono ?_); rintro e w' ⟨rfl, z9, rfl⟩)
      | (go_at_call 21; (with_reducible refine (hS3 _).mono ?_); rintro e w' ⟨rfl, z10, rfl⟩))
    clear hS1 hS2 hS3
    obtain ⟨V, hV⟩ : ∃ V, z8.w = V := ⟨_, rfl⟩
    rw [hV]
    haveI uV : UpI w V := hV ▸ inferInstance
    have rav : LnRow V (.slice qa NA ca) a := hV ▸ RowOf.up ra upI
    have rbv : LnRow V (.slice qb NB cb) b := hV ▸ RowOf.up rb upI
    have r7v : ChRow V (.slice q7 n c7) C := hV ▸ RowOf.up r7 upI
    have r9v : ChRow V (.slice q9 n c9) (C.map Ch.back) := hV ▸ RowOf.up r9 upI
    have RAV := Lib.hid rav; have RBV := Lib.hid rbv
    obtain ⟨p7, cp7, hpe7, hle7, hc7⟩ := r7v
    rw [HN.out] at hpe7 hle7
    simp only [Value.slice.injEq, true_and] at hpe7
    obtain ⟨rfl, rfl⟩ := hpe7
    obtain ⟨p9, cp9, hpe9, hle9, hc9⟩ := r9v
    rw [List.length_map, HN.out] at hpe9 hle9
    simp only [Value.slice.injEq, true_and] at hpe9
    obtain ⟨rfl, rfl⟩ := hpe9
    have Hc7 := Lib.hid hc7; have Hc9 := Lib.hid hc9
    clear hc7 hc9 rav rbv ra rb r7 r9 r13 r15 hV hn0
    go_loopw [114] (fun i wr => ∃ k : Nat, k ≤ n ∧ i = .int .i64 (k : Int) ∧ Up V wr) (fun i _ => n - (intOf i).toNat)
    case atStart => exact ⟨0, Nat.zero_le _, rfl, Up.refl _⟩
    case round =>
      obtain ⟨k, hk, rfl, hu⟩ := hrel
      haveI : UpI V wr := ⟨hu⟩
      haveI : UpI w wr := ⟨uV.up.trans hu⟩
      by_cases hlt : k < n
      · have hlt' : (k : Int) < (n : Int) := by omega
        have k0 : (0 : Int) ≤ (k : Int) := by omega
        obtain ⟨x, hx⟩ : ∃ x, C[k]? = some x := ⟨_, List.getElem?_eq_getElem (by rw [HN.out]; exact hlt)⟩
        obtain ⟨b7, o7, rfl, hb7, hcx⟩ := Hc7.out k x hx
        obtain ⟨b9, o9, rfl, hb9, hcb⟩ := Hc9.out k x.back (by rw [List.getElem?_map, hx]; rfl)
        have hX7 : wr.rangeAt b7 (o7 + k * 23) x.cells := fun j u hj => hu.cell_some (hcx j u hj)
        have hX9 : V.rangeAt b9 (o9 + k * 23) x.back.cells := fun j u hj => hcb j u hj
        have xok := HOK.out x (List.mem_of_getElem? hx)
        obtain ⟨K1, K2, hK, f1, f2, f3, f4⟩ := has_facts a b HSA.out HSB.out x xok
        have HX := Lib.hid hx; have HXOK := Lib.hid xok; have HK := Lib.hid hK
        have hH1 : ∀ W, UpI V W → Gives Tryz.prog 22 #[.slice qa NA ca, .agg (Ln.mk (chLn x).pr (chLn x).s (chLn x).d (chLn x).sp (chLn x).dp 0 0 false false 0 0).cells.toArray] W (.tuple #[.bool (!K1), .bool (hasL a (chLn x).keyOnly).2]) := fun W h => by
          have := hH a (chLn x).keyOnly W (.slice qa NA ca) HNA.out (RAV.out.up h.up)
          rwa [f1] at this
        have hH2 : ∀ W, UpI V W → Gives Tryz.prog 22 #[.slice qa NA ca, .agg x.old.cells.toArray] W (.tuple #[.bool (hasL a x.old).1, .bool (hasL a x.old).2]) := fun W h => hH a x.old W (.slice qa NA ca) HNA.out (RAV.out.up h.up)
        have hH3 : ∀ W, UpI V W → Gives Tryz.prog 22 #[.slice qb NB cb, .agg (Ln.mk (chLn x).pr (chLn x).s (chLn x).d (chLn x).sp (chLn x).dp 0 0 false false 0 0).cells.toArray] W (.tuple #[.bool (!K2), .bool (hasL b (chLn x).keyOnly).2]) := fun W h => by
          have := hH b (chLn x).keyOnly W (.slice qb NB cb) HNB.out (RBV.out.up h.up)
          rwa [f3] at this
        have hH4 : ∀ W, UpI V W → Gives Tryz.prog 22 #[.slice qb NB cb, .agg x.new.cells.toArray] W (.tuple #[.bool (hasL b x.new).1, .bool (hasL b x.new).2]) := fun W h => hH b x.new W (.slice qb NB cb) HNB.out (RBV.out.up h.up)
        generalize (hasL a (chLn x).keyOnly).2 = j1 at *
        generalize (hasL b (chLn x).keyOnly).2 = j3 at *
        generalize (hasL a x.old).1 = j2 at *
        generalize (hasL b x.new).1 = j4 at *
        generalize (hasL a x.old).2 = s2 at *
        generalize (hasL b x.new).2 = s4 at *
        have F2 := Lib.hid f2; have F4 := Lib.hid f4
        clear f1 f2 f3 f4 hcx hcb xok hK hx
        go_upto_region 15 with (first
          | ((with_reducible refine held ?_); refine H_load_mid rfl 71 _ rfl b7 (o7 + k * 23) rfl x.cells _ hX7 Tryz.underlying71 rfl chSize ?_)
          | ((with_reducible refine held ?_); refine H_store_row rfl 71 _ _ rfl _ x.cells.toArray rfl rfl 71 _ (alloc_new rfl) chSize rfl (Array.all_eq_true_iff_forall_mem.2 (fun u hu => chg_one x u (by simpa using hu))) ?_))
        obtain ⟨D1, hD1⟩ : ∃ D, wr.heap.size = D := ⟨_, rfl⟩
        rw [hD1]
        refine wp_letter (fun Z => UpI V Z ∧ Z.rangeAt D1 0 x.cells) ⟨⟨UpI.row hD1 _⟩, range_of_heap (setRow_heap _ _ _ _ _ _ (alloc_new hD1))⟩ ?_
        rintro Z1 ⟨uZ1, hZ1⟩
        haveI := uZ1
        clear hD1 hX7
        go_upto_region 16 with (first
          | ((with_reducible refine held ?_); refine H_buildRun rfl 72 _ rfl #[(0, .int .u8 0), (1, .int .u8 2), (2, .int .u8 1), (3, .int .u8 3)] (by kernel_rfl) _ _ (build_kinds _) ?_)
          | ((with_reducible refine held ?_); refine H_store_row rfl 72 _ _ rfl _ #[.int .u8 0, .int .u8 2, .int .u8 1, .int .u8 3] rfl rfl 72 _ (alloc_new rfl) kindsSize rfl (by decide) ?_))
        obtain ⟨D2, hD2⟩ : ∃ D, Z1.heap.size = D := ⟨_, rfl⟩
        rw [hD2]
        refine wp_letter (fun Z => UpI V Z ∧ Z.rangeAt D1 0 x.cells ∧ Z.rangeAt D2 0 [.int .u8 0, .int .u8 2, .int .u8 1, .int .u8 3]) ⟨inferInstance, rangeUp hZ1 upI, range_of_heap (alloc_new hD2)⟩ ?_
        clear hD2 hZ1
        rintro Z2 ⟨uZ2, hZ2, hK2⟩
        haveI := uZ2
        haveI : LtSize D1 Z2 := ⟨cell_lt (hZ2 0 _ rfl)⟩
        haveI : LtSize D2 Z2 := ⟨cell_lt (hK2 0 _ rfl)⟩
        have hOld := chr_old hZ2
        have hNew := chr_new hZ2
        rw [Nat.zero_add] at hOld hNew
        have hX92 := rangeUp hX9 uZ2.up
        clear hX9
        go_cut [143] (fun v wx => v = .bool false ∧ UpI Z2 wx)
        case first =>
          rcases HK.out with ⟨h1, _, _⟩ | ⟨h1, _, _⟩ | ⟨h1, _, _, _⟩
          · have c0 : Z2.cell? ⟨D1, 0, none⟩ = some (.int .u8 1) := by have := hZ2 0 _ rfl; rw [h1] at this; exact this
            have c1 : Z2.cell? ⟨D2, 1, none⟩ = some (.int .u8 2) := hK2 1 _ rfl
            have hbe : decide (x.back = Ch.mk 2 x.new x.old) = true := decide_eq_true (by unfold Ch.back; rw [h1]; rfl)
            refine wp_region_ext (by kernel_rfl) (by kernel_rfl) ?_
            repeat (first
              | ((with_reducible refine held ?_); refine HQ_load_mid (by kernel_rfl) 71 _ rfl b9 (o9 + k * 23) rfl x.back.cells _ (range_ext hX92) Tryz.underlying71 rfl chSize ?_; simp only [Act.put, List.setIfInBounds_toArray, List.set_cons_succ, List.set_cons_zero])
              | ((with_reducible refine held ?_); refine HQ_load_mid (by kernel_rfl) 44 _ rfl D1 12 rfl x.new.cells _ (range_ext hNew) Tryz.underlying44 rfl lnSize ?_; simp only [Act.put, List.setIfInBounds_toArray, List.set_cons_succ, List.set_cons_zero])
              | ((with_reducible refine held ?_); refine HQ_load_mid (by kernel_rfl) 44 _ rfl D1 1 rfl x.old.cells _ (range_ext hOld) Tryz.underlying44 rfl lnSize ?_; simp only [Act.put, List.setIfInBounds_toArray, List.set_cons_succ, List.set_cons_zero])
              | ((with_reducible refine held ?_); refine HQ_build (by kernel_rfl) 71 _ rfl #[(0, .int .u8 2), (1, .agg x.new.cells.toArray), (2, .agg x.old.cells.toArray)] (by kernel_rfl) _ (fun w => build_both 2 x.new x.old w) ?_; simp only [Act.put, List.setIfInBounds_toArray, List.set_cons_succ, List.set_cons_zero])
              | go_big_quiet_step (fail))
            refine wpQuiet_nil ?_
            rintro _ ⟨z11, rfl⟩
            go_wp2_with fail
            go_meet
            exact ⟨rfl, inferInstance⟩
          · have c0 : Z2.cell? ⟨D1, 0, none⟩ = some (.int .u8 2) := by have := hZ2 0 _ rfl; rw [h1] at this; exact this
            have c1 : Z2.cell? ⟨D2, 2, none⟩ = some (.int .u8 1) := hK2 2 _ rfl
            have hbe : decide (x.back = Ch.mk 1 x.new x.old) = true := decide_eq_true (by unfold Ch.back; rw [h1]; rfl)
            refine wp_region_ext (by kernel_rfl) (by kernel_rfl) ?_
            repeat (first
              | ((with_reducible refine held ?_); refine HQ_load_mid (by kernel_rfl) 71 _ rfl b9 (o9 + k * 23) rfl x.back.cells _ (range_ext hX92) Tryz.underlying71 rfl chSize ?_; simp only [Act.put, List.setIfInBounds_toArray, List.set_cons_succ, List.set_cons_zero])
              | ((with_reducible refine held ?_); refine HQ_load_mid (by kernel_rfl) 44 _ rfl D1 12 rfl x.new.cells _ (range_ext hNew) Tryz.underlying44 rfl lnSize ?_; simp only [Act.put, List.setIfInBounds_toArray, List.set_cons_succ, List.set_cons_zero])
              | ((with_reducible refine held ?_); refine HQ_load_mid (by kernel_rfl) 44 _ rfl D1 1 rfl x.old.cells _ (range_ext hOld) Tryz.underlying44 rfl lnSize ?_; simp only [Act.put, List.setIfInBounds_toArray, List.set_cons_succ, List.set_cons_zero])
              | ((with_reducible refine held ?_); refine HQ_build (by kernel_rfl) 71 _ rfl #[(0, .int .u8 1), (1, .agg x.new.cells.toArray), (2, .agg x.old.cells.toArray)] (by kernel_rfl) _ (fun w => build_both 1 x.new x.old w) ?_; simp only [Act.put, List.setIfInBounds_toArray, List.set_cons_succ, List.set_cons_zero])
              | go_big_quiet_step (fail))
            refine wpQuiet_nil ?_
            rintro _ ⟨z11, rfl⟩
            go_wp2_with fail
            go_meet
            exact ⟨rfl, inferInstance⟩
          · have c0 : Z2.cell? ⟨D1, 0, none⟩ = some (.int .u8 3) := by have := hZ2 0 _ rfl; rw [h1] at this; exact this
            have c1 : Z2.cell? ⟨D2, 3, none⟩ = some (.int .u8 3) := hK2 3 _ rfl
            have hbe : decide (x.back = Ch.mk 3 x.new x.old) = true := decide_eq_true (by unfold Ch.back; rw [h1]; rfl)
            refine wp_region_ext (by kernel_rfl) (by kernel_rfl) ?_
            repeat (first
              | ((with_reducible refine held ?_); refine HQ_load_mid (by kernel_rfl) 71 _ rfl b9 (o9 + k * 23) rfl x.back.cells _ (range_ext hX92) Tryz.underlying71 rfl chSize ?_; simp only [Act.put, List.setIfInBounds_toArray, List.set_cons_succ, List.set_cons_zero])
              | ((with_reducible refine held ?_); refine HQ_load_mid (by kernel_rfl) 44 _ rfl D1 12 rfl x.new.cells _ (range_ext hNew) Tryz.underlying44 rfl lnSize ?_; simp only [Act.put, List.setIfInBounds_toArray, List.set_cons_succ, List.set_cons_zero])
              | ((with_reducible refine held ?_); refine HQ_load_mid (by kernel_rfl) 44 _ rfl D1 1 rfl x.old.cells _ (range_ext hOld) Tryz.underlying44 rfl lnSize ?_; simp only [Act.put, List.setIfInBounds_toArray, List.set_cons_succ, List.set_cons_zero])
              | ((with_reducible refine held ?_); refine HQ_build (by kernel_rfl) 71 _ rfl #[(0, .int .u8 3), (1, .agg x.new.cells.toArray), (2, .agg x.old.cells.toArray)] (by kernel_rfl) _ (fun w => build_both 3 x.new x.old w) ?_; simp only [Act.put, List.setIfInBounds_toArray, List.set_cons_succ, List.set_cons_zero])
              | go_big_quiet_step (fail))
            refine wpQuiet_nil ?_
            rintro _ ⟨z11, rfl⟩
            go_wp2_with fail
            go_meet
            exact ⟨rfl, inferInstance⟩
        case rest =>
          obtain ⟨rfl, hu3⟩ := hcut
          haveI := hu3
          haveI : UpI V wc := ⟨uZ2.up.trans hu3.up⟩
          clear hX92 hK2
          have hOk := rangeUp (range_kcs hOld) hu3.up
          go_upto_region 19 with (first
            | ((with_reducible refine held ?_); refine H_load_mid rfl 34 _ rfl D1 1 rfl x.old.kcs _ hOk Tryz.underlying34 rfl keySizeC ?_)
            | ((with_reducible refine held ?_); refine H_store_row rfl 34 _ _ rfl _ x.old.kcs.toArray rfl rfl 34 _ (alloc_new rfl) keySizeC rfl (kcs_one x.old) ?_))
          obtain ⟨D3, hD3⟩ : ∃ D, wc.heap.size = D := ⟨_, rfl⟩
          rw [hD3]
          have hVD3 : V.heap.size ≤ D3 := by rw [← hD3]; exact (upI : Up V wc).size
          refine wp_letter (fun Z => UpI Z2 Z ∧ Z.heap[D3]? = some (.cells x.old.kcs.toArray 34 (0, 0))) ⟨⟨UpI.row hD3 _⟩, setRow_heap _ _ _ _ _ _ (alloc_new hD3)⟩ ?_
          rintro Z4 ⟨uZ4, hZ4⟩
          haveI := uZ4
          haveI : UpI V Z4 := ⟨uZ2.up.trans uZ4.up⟩
          clear hOk
          have hZ2D3 : Z2.heap.size ≤ D3 := Nat.le_trans (upI : Up Z2 wc).size (Nat.le_of_eq hD3)
          clear hD3
          have hZ4r := rangeUp hZ2 uZ4.up
          have c0 : Z4.cell? ⟨D1, 0, none⟩ = some (.int .u8 x.kind) := hZ4r 0 _ rfl
          have hNk := rangeUp (range_kcs hNew) uZ4.up
          haveI : LtSize D1 Z4 := ⟨cell_lt c0⟩
          go_upto_block 2 with fail
          go_cut [22, 23, 24, 25] (fun v22 v23 v24 v25 wx => v22 = .bool (!K1) ∧ v23 = .bool (!K1) ∧ v24 = .bool (!K2) ∧ v25 = .bool (!K2) ∧ UpI Z2 wx ∧ wx.heap[D3]? = some (.cells (chLn x).kcs.toArray 34 (0, 0)))
          case first =>
            rcases HK.out with ⟨h1, rfl, rfl⟩ | ⟨h1, rfl, rfl⟩ | ⟨h1, rfl, rfl, hj1, hj2⟩
            · have e : chLn x = x.new := by unfold chLn; rw [if_pos h1]
              have hS4 := setRow_heap Z4 D3 _ x.new.kcs.toArray _ _ hZ4
              have hU4 : UpI Z2 (Z4.setRow D3 x.new.kcs.toArray) := ⟨up_setRowG uZ4.up hZ2D3 _⟩
              have HE := Lib.hid e
              have q1 : (x.kind == 1) = true := by rw [h1]; rfl
              clear e h1
              go_wp2_with (first
                | ((with_reducible refine held ?_); refine H_load_mid rfl 34 _ rfl D1 12 rfl x.new.kcs _ hNk Tryz.underlying34 rfl keySizeC ?_)
                | ((with_reducible refine held ?_); refine H_store_row rfl 34 _ _ rfl D3 x.new.kcs.toArray rfl rfl 34 x.old.kcs.toArray hZ4 keySizeC rfl (kcs_one x.new) ?_))
              go_meet
              exact ⟨rfl, rfl, rfl, rfl, hU4, by rw [HE.out]; exact hS4⟩
            · have e : chLn x = x.old := by unfold chLn; rw [if_neg (by omega)]
              have HE := Lib.hid e
              have q1 : (x.kind == 1) = false := by rw [h1]; rfl
              have q2 : (x.kind == 2) = true := by rw [h1]; rfl
              clear e h1
              go_wp2_with fail
              go_meet
              exact ⟨rfl, rfl, rfl, rfl, inferInstance, by rw [HE.out]; exact hZ4⟩
            · have e : chLn x = x.old := by unfold chLn; rw [if_neg (by omega)]
              have HE := Lib.hid e
              have q1 : (x.kind == 1) = false := by rw [h1]; rfl
              have q2 : (x.kind == 2) = false := by rw [h1]; rfl
              clear hj1 hj2
              clear e h1
              go_wp2_with fail
              go_meet
              exact ⟨rfl, rfl, rfl, rfl, inferInstance, by rw [HE.out]; exact hZ4⟩
          case rest =>
            obtain ⟨rfl, rfl, rfl, rfl, hu5, hZ5⟩ := hcut
            haveI := hu5
            haveI : UpI V wc := ⟨uZ2.up.trans hu5.up⟩
            clear hZ4 hZ4r c0 hNk
            have hZ5b : ∀ W, UpI wc W → W.heap[D3]? = some (.cells (chLn x).kcs.toArray 34 (0, 0)) := fun W h => (h.up.block D3 (lt_of_heapC hZ5)).trans hZ5
            have hO5 := rangeUp hOld hu5.up
            have hN5 := rangeUp hNew hu5.up
            have HZ5 := Lib.hid hZ5
            clear hZ5
            go_upto_region 25 with (first
              | ((with_reducible refine held ?_); refine H_load_row rfl 34 _ rfl D3 rfl 34 (chLn x).kcs.toArray (0, 0) _ (hZ5b _ inferInstance) Tryz.underlying34 rfl keySizeC ?_)
              | ((with_reducible refine held ?_); refine H_buildRun rfl 44 _ rfl #[(0, .agg (chLn x).kcs.toArray)] (by kernel_rfl) _ _ (build_lkey (chLn x).pr (chLn x).s (chLn x).d (chLn x).sp (chLn x).dp _) ?_)
              | (go_at_call 22; (with_reducible refine (hH1 _ inferInstance).mono ?_); rintro e w' ⟨rfl, y1, rfl⟩))
            go_upto_region 26 with (first
              | ((with_reducible refine held ?_); refine H_load_mid rfl 44 _ rfl D1 1 rfl x.old.cells _ (rangeUp hO5 upI) Tryz.underlying44 rfl lnSize ?_)
              | (go_at_call 22; (with_reducible refine (hH2 _ inferInstance).mono ?_); rintro e w' ⟨rfl, y2, rfl⟩))
            go_upto_region 27 with (first
              | ((with_reducible refine held ?_); refine H_load_row rfl 34 _ rfl D3 rfl 34 (chLn x).kcs.toArray (0, 0) _ (hZ5b _ inferInstance) Tryz.underlying34 rfl keySizeC ?_)
              | ((with_reducible refine held ?_); refine H_buildRun rfl 44 _ rfl #[(0, .agg (chLn x).kcs.toArray)] (by kernel_rfl) _ _ (build_lkey (chLn x).pr (chLn x).s (chLn x).d (chLn x).sp (chLn x).dp _) ?_)
              | (go_at_call 22; (with_reducible refine (hH3 _ inferInstance).mono ?_); rintro e w' ⟨rfl, y3, rfl⟩))
            go_upto_region 28 with (first
              | ((with_reducible refine held ?_); refine H_load_mid rfl 44 _ rfl D1 12 rfl x.new.cells _ (rangeUp hN5 upI) Tryz.underlying44 rfl lnSize ?_)
              | (go_at_call 22; (with_reducible refine (hH4 _ inferInstance).mono ?_); rintro e w' ⟨rfl, y4, rfl⟩))
            have c0 : wc.cell? ⟨D1, 0, none⟩ = some (.int .u8 x.kind) := (upI : Up Z2 wc).cell_some' (hZ2 0 _ rfl)
            haveI : LtSize D1 wc := ⟨cell_lt c0⟩
            have hO5k := range_kcs hO5
            have hN5k := range_kcs hN5
            clear hH1 hH2 hH3 hH4
            rename_i i0_ i1_ i2_ i3_ i4_ i5_ i6_ i7_ i8_ i9_ i10_ i11_ i12_ i13_ i14_ i15_ i16_ i17_ i18_ i19_ i20_ i21_ i22_ i23_ i24_ i25_ i26_ i27_ i28_ i29_ i30_ i31_ i32_ i33_ i34_ i35_ i36_ i37_ i38_ i39_ i40_ i41_ i42_ i43_ i44_ i45_ i46_ i47_ i48_ i49_ i50_ i51_ i52_ i53_ i54_ i55_ i56_ i57_ i58_ i59_ i60_ i61_ i62_ i63_ i64_ i65_ i66_ i67_ i68_ i69_ i70_ i71_ i72_ i73_ i74_ i75_ i76_ i77_ i78_ i79_ i80_ i81_ i82_ i83_ i84_ i85_ i86_ i87_ i88_ i89_ i90_ i91_ i92_ i93_ i94_ i95_ i96_ i97_ i98_ i99_ i100_ i101_ i102_ i103_ i104_ i105_ i106_ i107_ i108_ i109_ i110_ i111_ i112_ i113_ i114_ i115_ i116_ i117_ i118_ i119_ i120_ i121_ i122_ i123_ i124_ i125_ i126_ i127_ i128_ i129_ i130_ i131_ i132_ i133_ i134_ i135_ i136_ i137_ i138_ i139_ i140_ i141_ i142_ i143_ i144_ i145_ i146_ i147_ i148_ i149_ i150_ i151_ i152_ i153_ i154_ i155_ i156_ i157_ i158_ i159_ i160_ i161_ i162_ i163_ i164_ i165_ i166_ i167_ i168_ i169_ i170_ i171_ i172_ i173_ i174_ i175_ i176_ i177_ i178_ i179_ i180_ i181_ i182_ i183_ i184_ i185_ i186_ i187_ i188_ i189_ i190_ i191_ i192_ i193_ i194_ i195_ i196_ i197_ i198_ i199_ i200_ i201_ i202_ i203_ i204_ i205_ i206_ i207_ i208_ i209_ i210_ i211_ i212_ i213_ i214_ i215_ i216_ i217_ i218_ i219_ i220_ i221_ i222_ i223_ i224_ i225_ i226_ i227_ i228_ i229_ i230_ i231_ i232_ i233_ i234_ i235_ i236_ i237_ i238_ i239_ i240_ i241_ i242_ i243_ i244_ i245_ i246_ i247_ i248_ i249_ i250_ i251_ i252_ i253_ i254_ i255_ i256_ i257_ i258_ i259_ i260_ i261_ i262_ i263_ i264_ i265_ i266_ i267_ i268_ i269_ i270_ i271_ i272_ i273_ i274_ i275_ i276_ i277_ i278_ i279_ i280_ i281_ i282_ i283_ i284_ i285_ i286_ i287_ i288_ i289_ i290_ i291_ i292_ i293_ i294_ i295_ i296_ i297_ i298_ i299_ i300_ i301_ i302_ i303_ i304_ i305_ i306_
            revert u218 u219 u220 u221 u222 u223 u224 u225 u226 u227 u228 u229 u230 u231 u232 u233 u234 u235 u236 u237 u238 u239 u240 u241 u242 u243 u244 u245 u246 u247 u248 u249 u250 u251 u252 u253 u254 u255 u256 u257 u258 hu5 i301_ i302_ hZ5b hO5 hN5 HZ5 y1 y2 y3 y4 i303_ i304_ i305_ i306_ c0 this hO5k hN5k
            revert u158 u159 u160 u161 u162 u163 u164 u165 u166 u167 u168 u169 u170 u171 u172 u173 u174 u175 u176 u177 u178 u179 u180 u181 u182 u183 u184 u185 u186 u187 u188 u189 u190 u191 u192 u193 u194 u195 u196 u197 u198 u199 u200 u201 u202 u203 u204 u205 u206 u207 u208 u209 u210 u211 u212 u213 u214 u215 u216 u217
            revert i290_ i291_ i292_ i293_ i294_ i295_ hu3 i296_ i297_ D3 hVD3 Z4 uZ4 i298_ i299_ hZ2D3 i300_ wc u115 u116 u117 u118 u119 u120 u121 u122 u123 u124 u125 u126 u127 u128 u129 u130 u131 u132 u133 u134 u135 u136 u137 u138 u139 u140 u141 u142 u143 u144 u145 u146 u147 u149 u150 u151 u152 u153 u154 u155 u156 u157
            revert i230_ i231_ i232_ i233_ i234_ i235_ i236_ i237_ i238_ i239_ i240_ i241_ i242_ i243_ i244_ i245_ i246_ i247_ i248_ i249_ i250_ i251_ i252_ i253_ i254_ i255_ i256_ i257_ i258_ i259_ i260_ i261_ i262_ i263_ i264_ i265_ i266_ i267_ i268_ i269_ i270_ i271_ i272_ i273_ i274_ i275_ i276_ i277_ i278_ i279_ i280_ i281_ i282_ i283_ i284_ i285_ i286_ i287_ i288_ i289_
            revert i170_ i171_ i172_ i173_ i174_ i175_ i176_ i177_ i178_ i179_ i180_ i181_ i182_ i183_ i184_ i185_ i186_ i187_ i188_ i189_ i190_ i191_ i192_ i193_ i194_ i195_ i196_ i197_ i198_ i199_ i200_ i201_ i202_ i203_ i204_ i205_ i206_ i207_ i208_ i209_ i210_ i211_ i212_ i213_ i214_ i215_ i216_ i217_ i218_ i219_ i220_ i221_ i222_ i223_ i224_ i225_ i226_ i227_ i228_ i229_
            revert hk hu i146_ i147_ hlt hlt' k0 x b7 o7 Hc7 hb7 b9 o9 Hc9 hb9 K1 K2 HX HXOK HK j1 j3 j2 j4 s2 s4 F2 F4 i148_ i149_ i150_ D1 Z1 uZ1 i151_ D2 Z2 uZ2 hZ2 i152_ i153_ i154_ hOld hNew i155_ i156_ i157_ i158_ i159_ i160_ i161_ i162_ i163_ i164_ i165_ i166_ i167_ i168_ i169_
            revert i87_ i88_ i89_ i90_ i91_ i92_ i93_ i94_ i95_ i96_ i97_ i98_ i99_ i100_ i101_ i102_ i103_ i104_ i105_ i106_ i107_ i108_ i109_ i110_ i111_ i112_ i113_ i114_ i115_ i116_ i117_ i118_ i119_ i120_ i121_ i122_ i123_ i124_ i125_ i126_ i127_ i128_ i129_ i130_ i131_ i132_ i133_ i134_ i135_ i136_ i137_ i138_ i139_ i140_ i141_ i142_ i143_ i144_ i145_ k
            revert i28_ i29_ i30_ i31_ i32_ i33_ i34_ i35_ u148 i36_ i37_ i38_ i39_ i40_ i41_ i42_ i43_ i44_ i45_ i46_ i47_ i48_ i49_ i50_ i51_ i52_ i53_ i54_ i55_ i56_ i57_ i58_ i59_ i60_ i61_ i62_ i63_ i64_ i65_ i66_ i67_ i68_ i69_ i70_ i71_ i72_ i73_ i74_ i75_ i76_ i77_ i78_ i79_ i80_ i81_ i82_ i83_ i84_ i85_ i86_
            revert z5 q13 c13 z6 q15 c15 z7 z9 z10 z8 i1_ i2_ V uV RAV RBV hle7 hle9 wr u4 u18 u19 u20 u21 u22 u23 u24 u25 u26 u27 u28 u29 u30 u31 u32 i3_ i4_ i5_ i6_ i7_ i8_ i9_ i10_ i11_ i12_ i13_ i14_ i15_ i16_ i17_ i18_ i19_ i20_ i21_ i22_ i23_ i24_ i25_ i26_ i27_
            revert l1 l2 v1 v2 w g NA NB a b C n hn60 sab hH HOK HLT HNA HNB HSA HSB HBA HBB HN i0_ xa qa ca z1 qb cb z2 c7 z3 c9 z4 q11 c11
            exact hR
      · obtain rfl : k = n := by omega
        go_wp2_with fail
        go_ret
        exact ⟨rfl, mkI⟩
set_option maxHeartbeats 64000000 in
set_option maxRecDepth 100000 in
theorem dchaRest : dchaPart.1 := by
  unfold dchaPart
  intro l1 l2 v1 v2 w g NA NB a b C n hn60 sab hH HOK HLT HNA HNB HSA HSB HBA HBB HN i0_ xa qa ca z1 qb cb z2 c7 z3 c9 z4 q11 c11 z5 q13 c13 z6 q15 c15 z7 z9 z10 z8 i1_ i2_ V uV RAV RBV hle7 hle9 wr u4 u18 u19
  intro u20 u21 u22 u23 u24 u25 u26 u27 u28 u29 u30 u31 u32 i3_ i4_ i5_ i6_ i7_ i8_ i9_ i10_ i11_ i12_ i13_ i14_ i15_ i16_ i17_ i18_ i19_ i20_ i21_ i22_ i23_ i24_ i25_ i26_ i27_ i28_ i29_ i30_ i31_ i32_ i33_ i34_ i35_ u148 i36_ i37_ i38_ i39_ i40_ i41_ i42_ i43_ i44_ i45_ i46_ i47_ i48_
  intro i49_ i50_ i51_ i52_ i53_ i54_ i55_ i56_ i57_ i58_ i59_ i60_ i61_ i62_ i63_ i64_ i65_ i66_ i67_ i68_ i69_ i70_ i71_ i72_ i73_ i74_ i75_ i76_ i77_ i78_ i79_ i80_ i81_ i82_ i83_ i84_ i85_ i86_ i87_ i88_ i89_ i90_ i91_ i92_ i93_ i94_ i95_ i96_ i97_ i98_ i99_ i100_ i101_ i102_ i103_ i104_ i105_ i106_ i107_ i108_
  intro i109_ i110_ i111_ i112_ i113_ i114_ i115_ i116_ i117_ i118_ i119_ i120_ i121_ i122_ i123_ i124_ i125_ i126_ i127_ i128_ i129_ i130_ i131_ i132_ i133_ i134_ i135_ i136_ i137_ i138_ i139_ i140_ i141_ i142_ i143_ i144_ i145_ k hk hu i146_ i147_ hlt hlt' k0 x b7 o7 Hc7 hb7 b9 o9 Hc9 hb9 K1 K2 HX HXOK HK j1
  intro j3 j2 j4 s2 s4 F2 F4 i148_ i149_ i150_ D1 Z1 uZ1 i151_ D2 Z2 uZ2 hZ2 i152_ i153_ i154_ hOld hNew i155_ i156_ i157_ i158_ i159_ i160_ i161_ i162_ i163_ i164_ i165_ i166_ i167_ i168_ i169_ i170_ i171_ i172_ i173_ i174_ i175_ i176_ i177_ i178_ i179_ i180_ i181_ i182_ i183_ i184_ i185_ i186_ i187_ i188_ i189_ i190_ i191_
  intro i192_ i193_ i194_ i195_ i196_ i197_ i198_ i199_ i200_ i201_ i202_ i203_ i204_ i205_ i206_ i207_ i208_ i209_ i210_ i211_ i212_ i213_ i214_ i215_ i216_ i217_ i218_ i219_ i220_ i221_ i222_ i223_ i224_ i225_ i226_ i227_ i228_ i229_ i230_ i231_ i232_ i233_ i234_ i235_ i236_ i237_ i238_ i239_ i240_ i241_ i242_ i243_ i244_ i245_ i246_ i247_ i248_ i249_ i250_ i251_
  intro i252_ i253_ i254_ i255_ i256_ i257_ i258_ i259_ i260_ i261_ i262_ i263_ i264_ i265_ i266_ i267_ i268_ i269_ i270_ i271_ i272_ i273_ i274_ i275_ i276_ i277_ i278_ i279_ i280_ i281_ i282_ i283_ i284_ i285_ i286_ i287_ i288_ i289_ i290_ i291_ i292_ i293_ i294_ i295_ hu3 i296_ i297_ D3 hVD3 Z4 uZ4 i298_ i299_ hZ2D3 i300_ wc u115 u116 u117 u118
  intro u119 u120 u121 u122 u123 u124 u125 u126 u127 u128 u129 u130 u131 u132 u133 u134 u135 u136 u137 u138 u139 u140 u141 u142 u143 u144 u145 u146 u147 u149 u150 u151 u152 u153 u154 u155 u156 u157 u158 u159 u160 u161 u162 u163 u164 u165 u166 u167 u168 u169 u170 u171 u172 u173 u174 u175 u176 u177 u178 u179
  intro u180 u181 u182 u183 u184 u185 u186 u187 u188 u189 u190 u191 u192 u193 u194 u195 u196 u197 u198 u199 u200 u201 u202 u203 u204 u205 u206 u207 u208 u209 u210 u211 u212 u213 u214 u215 u216 u217 u218 u219 u220 u221 u222 u223 u224 u225 u226 u227 u228 u229 u230 u231 u232 u233 u234 u235 u236 u237 u238 u239
  intro u240 u241 u242 u243 u244 u245 u246 u247 u248 u249 u250 u251 u252 u253 u254 u255 u256 u257 u258 hu5 i301_ i302_ hZ5b hO5 hN5 HZ5 y1 y2 y3 y4 i303_ i304_ i305_ i306_ c0 this hO5k hN5k
  go_cut [230] (fun v wx => v = .bool false ∧ UpI V wx ∧ wx.heap[D3]? = some (.cells (chLn x).kcs.toArray 34 (0, 0)))
  case first =>
    rcases HK.out with ⟨h1, rfl, rfl⟩ | ⟨h1, rfl, rfl⟩ | ⟨h1, rfl, rfl, hj1, hj2⟩
    · obtain rfl : s4 = true := by rcases F4.out with h | h; exact h; cases h
      have q3 : (x.kind == 3) = false := by rw [h1]; rfl
      clear h1
      go_wp2_with fail
      go_meet
      exact ⟨rfl, inferInstance, hZ5b _ inferInstance⟩
    · obtain rfl : s2 = true := by rcases F2.out with h | h; exact h; cases h
      have q3 : (x.kind == 3) = false := by rw [h1]; rfl
      clear h1
      go_wp2_with fail
      go_meet
      exact ⟨rfl, inferInstance, hZ5b _ inferInstance⟩
    · obtain rfl : s4 = true := by rcases F4.out with h | h; exact h; cases h
      obtain rfl : s2 = true := by rcases F2.out with h | h; exact h; cases h
      have q3 : (x.kind == 3) = true := by rw [h1]; rfl
      have hde : decide (x.old = x.new) = false := decide_eq_false hj1
      have hkb : (x.old.pr == x.new.pr && (x.old.s == x.new.s && (x.old.d == x.new.d && (x.old.sp == x.new.sp && x.old.dp == x.new.dp)))) = true := hj2
      clear h1 hj1 hj2
      go_wp2_with (first
        | ((with_reducible refine held ?_); refine H_load_midG 44 _ rfl D1 1 rfl (by kernel_rfl) x.old.cells _ (rangeUp hO5 upI) Tryz.underlying44 rfl lnSize ?_)
        | ((with_reducible refine held ?_); refine H_load_midG 44 _ rfl D1 12 rfl (by kernel_rfl) x.new.cells _ (rangeUp hN5 upI) Tryz.underlying44 rfl lnSize ?_)
        | ((with_reducible refine held ?_); refine H_load_midG 34 _ rfl D1 1 rfl (by kernel_rfl) [.int .u8 x.old.pr, .int .u32 x.old.s, .int .u32 x.old.d, .int .u16 x.old.sp, .int .u16 x.old.dp] _ (rangeUp hO5k upI) Tryz.underlying34 rfl keySizeC ?_)
        | ((with_reducible refine held ?_); refine H_load_midG 34 _ rfl D1 12 rfl (by kernel_rfl) [.int .u8 x.new.pr, .int .u32 x.new.s, .int .u32 x.new.d, .int .u16 x.new.sp, .int .u16 x.new.dp] _ (rangeUp hN5k upI) Tryz.underlying34 rfl keySizeC ?_))
      go_meet
      exact ⟨rfl, inferInstance, hZ5b _ inferInstance⟩
  case rest =>
    obtain ⟨rfl, hu6, hZ6⟩ := hcut
    haveI := hu6
    haveI : UpI w wc := ⟨uV.up.trans hu6.up⟩
    clear hZ5b hO5 hN5 hO5k hN5k HZ5 c0
    rcases Nat.eq_zero_or_pos k with hk0 | hk0
    · have hkz : ¬ (0 : Int) < (k : Int) := by rw [hk0]; decide
      go_wp2_with fail
      go_roundw
      case rel => exact ⟨k + 1, Nat.succ_le_of_lt hlt, by go_num, upI⟩
      case measure => simp [intOf]; omega
    · have hkp := Int.ofNat_lt.2 hk0
      go_upto_region 31 with fail
      obtain ⟨m, hm, _, hkm, hm0, hmn, hwm, hmn'⟩ := pred_nums k n hlt hk0 hn60
      haveI := hwm
      obtain ⟨z, hz⟩ : ∃ z, C[m]? = some z := ⟨_, List.getElem?_eq_getElem (by rw [HN.out]; exact hmn')⟩
      obtain ⟨b', o', hp', _, hcz⟩ := Hc7.out m z hz
      simp only [Option.some.injEq, Addr.mk.injEq, and_true] at hp'
      obtain ⟨rfl, rfl⟩ := hp'
      have hzr : wc.rangeAt b7 (o7 + m * 23) z.cells := fun t u hj => hu6.up.cell_some (hcz t u hj)
      have hzk : wc.cell? ⟨b7, o7 + m * 23, none⟩ = some (.int .u8 z.kind) := by have := hzr 0 _ rfl; rwa [Nat.add_zero] at this
      haveI : LtSize b7 wc := ⟨cell_lt hzk⟩
      have hzo := range_kcs (chr_old hzr)
      have hzn := range_kcs (chr_new hzr)
      have zok := HOK.out z (List.mem_of_getElem? hz)
      have zb := chLn_b HBA.out HBB.out zok
      have xb := chLn_b HBA.out HBB.out HXOK.out
      obtain ⟨cc, hcc⟩ : ∃ cc, (chLn z).cmp (chLn x) = cc := ⟨_, rfl⟩
      have hcneg : cc < 0 := by rw [← hcc]; exact HLT.out m x z hz (by rw [← hm]; exact HX.out)
      have hcmp : ∀ W, Gives Tryz.prog 23 #[.agg (chLn z).kcs.toArray, .agg (chLn x).kcs.toArray] W (.int .i64 cc) := fun W => by
        rw [← hcc]
        exact compare_any (chLn z).pr (chLn z).s (chLn z).d (chLn z).sp (chLn z).dp (chLn x).pr (chLn x).s (chLn x).d (chLn x).sp (chLn x).dp W zb.key.r0 zb.key.r1 zb.key.sp0 zb.key.sp1 zb.key.dp0 zb.key.dp1 xb.key.r0 xb.key.r1 xb.key.sp0 xb.key.sp1 xb.key.dp0 xb.key.dp1
      clear hcz hz hzr zok zb xb hcc hk0 hm
      go_upto_region 32 with (first
        | ((with_reducible refine held ?_); refine H_load_mid rfl 34 _ rfl b7 (o7 + m * 23 + 1) rfl z.old.kcs _ hzo Tryz.underlying34 rfl keySizeC ?_)
        | ((with_reducible refine held ?_); refine H_store_row rfl 34 _ _ rfl _ z.old.kcs.toArray rfl rfl 34 _ (alloc_new rfl) keySizeC rfl (kcs_one z.old) ?_))
      obtain ⟨P, hP⟩ : ∃ P, wc.heap.size = P := ⟨_, rfl⟩
      rw [hP]
      have hwP : wc.heap.size ≤ P := Nat.le_of_eq hP
      refine wp_letter (fun Z => UpI wc Z ∧ Z.heap[P]? = some (.cells z.old.kcs.toArray 34 (0, 0))) ⟨⟨UpI.row hP _⟩, setRow_heap _ _ _ _ _ _ (alloc_new hP)⟩ ?_
      rintro Z6 ⟨uZ6, hP6⟩
      haveI := uZ6
      haveI : UpI V Z6 := ⟨hu6.up.trans uZ6.up⟩
      haveI : UpI w Z6 := ⟨uV.up.trans (hu6.up.trans uZ6.up)⟩
      haveI : LtSize b7 Z6 := ⟨Nat.lt_of_lt_of_le (LtSize.lt (b := b7) (w := wc)) uZ6.up.size⟩
      have hzk6 : Z6.cell? ⟨b7, o7 + m * 23, none⟩ = some (.int .u8 z.kind) := uZ6.up.cell_some' hzk
      have hzn6 := rangeUp hzn uZ6.up
      have hD6 : Z6.heap[D3]? = some (.cells (chLn x).kcs.toArray 34 (0, 0)) := (uZ6.up.block D3 (lt_of_heapC hZ6)).trans hZ6
      have hDP : D3 < wc.heap.size := lt_of_heapC hZ6
      clear hP hzo hzn hzk
      by_cases hz1 : z.kind = 1
      · have q1 : (z.kind == 1) = true := by rw [hz1]; rfl
        have e : chLn z = z.new := by unfold chLn; rw [if_pos hz1]
        rw [e] at hcmp
        clear hz1 e
        go_upto_region 34 with (first
          | ((with_reducible refine held ?_); refine H_load_mid rfl 34 _ rfl b7 (o7 + m * 23 + 12) rfl z.new.kcs _ hzn6 Tryz.underlying34 rfl keySizeC ?_)
          | ((with_reducible refine held ?_); refine H_store_row rfl 34 _ _ rfl P z.new.kcs.toArray rfl rfl 34 z.old.kcs.toArray hP6 keySizeC rfl (kcs_one z.new) ?_))
        refine wp_letter (fun Z => UpI wc Z ∧ Z.heap[P]? = some (.cells z.new.kcs.toArray 34 (0, 0)) ∧ Z.heap[D3]? = some (.cells (chLn x).kcs.toArray 34 (0, 0))) ⟨⟨up_setRowG uZ6.up hwP _⟩, setRow_heap Z6 P _ z.new.kcs.toArray _ _ hP6, ((up_setRowG uZ6.up hwP z.new.kcs.toArray).block D3 hDP).trans hZ6⟩ ?_
        clear hzk6 hzn6 hD6 hP6
        rintro Z7 ⟨uZ7, hP7, hD7⟩
        haveI := uZ7
        haveI : UpI V Z7 := ⟨hu6.up.trans uZ7.up⟩
        haveI : UpI w Z7 := ⟨uV.up.trans (hu6.up.trans uZ7.up)⟩
        go_wp2_with (first
          | ((with_reducible refine held ?_); refine H_load_row rfl 34 _ rfl P rfl 34 z.new.kcs.toArray (0, 0) _ hP7 Tryz.underlying34 rfl keySizeC ?_)
          | ((with_reducible refine held ?_); refine H_load_row rfl 34 _ rfl D3 rfl 34 (chLn x).kcs.toArray (0, 0) _ hD7 Tryz.underlying34 rfl keySizeC ?_)
          | (go_at_call 23; (with_reducible refine (hcmp _).mono ?_); rintro e w' ⟨rfl, y5, rfl⟩))
        go_roundw
        case rel => exact ⟨k + 1, Nat.succ_le_of_lt hlt, by go_num, upI⟩
        case measure => simp [intOf]; omega
      · have q1 : (z.kind == 1) = false := beq_eq_false_iff_ne.2 hz1
        have e : chLn z = z.old := by unfold chLn; rw [if_neg hz1]
        rw [e] at hcmp
        clear hz1 e hzn6
        go_wp2_with (first
          | ((with_reducible refine held ?_); refine H_load_row rfl 34 _ rfl P rfl 34 z.old.kcs.toArray (0, 0) _ hP6 Tryz.underlying34 rfl keySizeC ?_)
          | ((with_reducible refine held ?_); refine H_load_row rfl 34 _ rfl D3 rfl 34 (chLn x).kcs.toArray (0, 0) _ hD6 Tryz.underlying34 rfl keySizeC ?_)
          | (go_at_call 23; (with_reducible refine (hcmp _).mono ?_); rintro e w' ⟨rfl, y5, rfl⟩))
        go_roundw
        case rel => exact ⟨k + 1, Nat.succ_le_of_lt hlt, by go_num, upI⟩
        case measure => simp [intOf]; omega
theorem dchanges_any (l1 l2 : List Wd) (v1 v2 : Value) (w : World) (g : GoodD w) (hv1 : WdRow w v1 l1) (hv2 : WdRow w v2 l2) (hb1 : ∀ x ∈ l1, WdB x) (hb2 : ∀ x ∈ l2, WdB x) (hl1 : l1.length ≤ 9223372036854775807) (hl2 : l2.length ≤ 9223372036854775807) :
    Gives Tryz.prog 6 #[v1, v2] w (.bool true) := dchaPart.2 dchaRest l1 l2 v1 v2 w g hv1 hv2 hb1 hb2 hl1 hl2
end Go.Proofs.YteciigbonaecoaaGreatDoor
