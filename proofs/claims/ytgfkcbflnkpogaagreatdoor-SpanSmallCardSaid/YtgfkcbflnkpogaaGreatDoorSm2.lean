/- SpanSmall, walked: its first loop. -/
import Derived.Test.YtgfkcbflnkpogaaGreatDoorSo3
import Derived.Test.YtgfkcbflnkpogaaGreatDoorSm1
import Derived.Test.YtgfkcbflnkpogaaGreatDoorSm3
import Derived.Deep.CutBlock
import Derived.Deep.DeepCutAuto
set_option linter.unusedSimpArgs false
set_option linter.unusedVariables false
namespace Go.Proofs.YtgfkcbflnkpogaaGreatDoor
open Go.RowKit Go.Ab
theorem texts_str (s : ByteArray) (l : List (Int × Int)) (v : Value) (w : World) (g : Good w) (hv : PfRow w v l) (hb : ∀ p ∈ l, PfB p) : Gives Tryz.prog 27 #[.string s, v] w (.bool true) := by
  have h := texts_any s.data.toList l v w g hv hb
  simpa using h
theorem pf_two (W : World) : PfRow (W.alloc (.cells #[.int .u32 8, .int .u8 29, .int .u32 16, .int .u8 28] 62)) (.slice (some ⟨W.heap.size, 0, none⟩) 2 2) [(8, 29), (16, 28)] :=
  RowOf.of_block (cells := pfCells) (k := 2) pfCells_length (l := [(8, 29), (16, 28)]) (t := 62) (fz := (0, 0)) (by rw [alloc_get, if_pos rfl]; rfl) (Nat.le_refl _)
theorem pf_oneR (W : World) : PfRow (W.alloc (.cells #[.int .u32 1, .int .u8 31] 62)) (.slice (some ⟨W.heap.size, 0, none⟩) 1 1) [(1, 31)] :=
  RowOf.of_block (cells := pfCells) (k := 2) pfCells_length (l := [(1, 31)]) (t := 62) (fz := (0, 0)) (by rw [alloc_get, if_pos rfl]; rfl) (Nat.le_refl _)
theorem pb_nil : ∀ p ∈ ([] : List (Int × Int)), PfB p := fun p h => (List.not_mem_nil h).elim
theorem pb_two : ∀ p ∈ ([(8, 29), (16, 28)] : List (Int × Int)), PfB p := fun p h => by
  simp only [List.mem_cons, List.mem_nil_iff, or_false] at h
  rcases h with rfl | rfl <;> constructor <;> decide
theorem pb_one : ∀ p ∈ ([(1, 31)] : List (Int × Int)), PfB p := fun p h => by
  rw [List.mem_singleton.1 h]; constructor <;> decide
theorem stepG_call {P : Program} {ops : Array Oper} {o : Oper} {a : Act} {w : World} {K : Act → World → Prop} {Q : Exit → Act → World → Prop} {E : Prop} (hw : Region.wanted o (yielded ops a.tmps) = true) (f : FuncId) (xs : Array Operand) (ts : Array TypeId) (hop : o.op = Op.call { callee := Callee.value (Operand.func f), args := xs, argTypes := ts })
    (args : Array Value) (ha : xs.map a.eval = args) (hcf : ∀ w, (callFunc f args).run P w = .ok (.enter f args) w) (v : Value) (h : Gives P f args w v) (hK : ∀ x : Ext w, K (a.put o.dst v) x.w) :
    (if Region.wanted o (yielded ops a.tmps) = true then o.wp P a w K Q else E) := by
  rw [if_pos hw]
  unfold Oper.wp
  unfold execOp
  rw [hop]
  go_simp
  refine Gives.mono h ?_
  rintro e w1 ⟨rfl, x, rfl⟩
  exact hK x
theorem row_two (W : World) (x y : Sp) : SpRow (W.alloc (.cells #[.int .u32 x.1, .int .u32 x.2, .int .u32 y.1, .int .u32 y.2] 39)) (.slice (some ⟨W.heap.size, 0, none⟩) 2 2) [x, y] :=
  RowOf.of_block (cells := spCells) (k := 2) spCells_length (l := [x, y]) (t := 39) (fz := (0, 0)) (by rw [alloc_get, if_pos rfl]; rfl) (Nat.le_refl _)
end Go.Proofs.YtgfkcbflnkpogaaGreatDoor
namespace Go.Proofs.YtgfkcbflnkpogaaGreatDoor
open Go.RowKit Go.Ab
attribute [local go_sem high] wrapI64 wrapK64 wrapU32
set_option maxHeartbeats 64000000 in
set_option maxRecDepth 100000 in
theorem ssmall_any (w : World) (g : Good w) : Gives Tryz.prog 10 #[] w (.bool true) := by
  unfold Gives
  go_enter Tryz.func10, Tryz.ntmps10
  go_wp2_with fail
  go_loopw [28] (fun i wr => ∃ k : Nat, k ≤ 4096 ∧ i = .int .i64 (k : Int) ∧ ∃ x : Ext w, wr = x.w) (fun i _ => 4096 - (intOf i).toNat)
  case atStart => exact ⟨0, Nat.zero_le _, rfl, mkI⟩
  case round =>
    obtain ⟨k, hk, rfl, x0, rfl⟩ := hrel
    by_cases hlt : k < 4096
    · have hlt' : (k : Int) < 4096 := by omega
      have k0 : (0 : Int) ≤ (k : Int) := by omega
      obtain ⟨r, hr⟩ : ∃ r, (k : Int).tmod 64 = r := ⟨_, rfl⟩
      have hr' : (k : Int) % 64 = r := by rw [← hr, Int.tmod_eq_emod_of_nonneg k0]
      obtain ⟨d, hd⟩ : ∃ d, (k : Int).tdiv 64 = d := ⟨_, rfl⟩
      have hd' : (k : Int) / 64 = d := by rw [← hd, Int.tdiv_eq_ediv_of_nonneg k0]
      have r0 : 0 ≤ r := by omega
      have r1 : r < 64 := by omega
      have d0 : 0 ≤ d := by omega
      have d1 : d < 64 := by omega
      haveI : In64 r := ⟨by omega⟩
      haveI : In64 d := ⟨by omega⟩
      obtain ⟨f, hf, hff⟩ : ∃ f : Int, (0 ≤ f ∧ f ≤ 4294967290) ∧ ((k : Int).tmod 3 = 1 ∧ f = 4294967290 ∨ ¬ (k : Int).tmod 3 = 1 ∧ f = 0) := by
        by_cases h3 : (k : Int).tmod 3 = 1
        · exact ⟨4294967290, by omega, .inl ⟨h3, rfl⟩⟩
        · exact ⟨0, by omega, .inr ⟨h3, rfl⟩⟩
      have cs1 := fun (W : World) => bitset_any r f W hf.1 hf.2 r0 (by omega)
      have cs2 := fun (W : World) => bitset_any d f W hf.1 hf.2 d0 (by omega)
      have cs3 := fun (W : World) => bitset_any (k : Int) 4294967290 W (by decide) (by decide) k0 (by omega)
      have e3 : (k : Int).tmod 3 = (k : Int) % 3 := Int.tmod_eq_emod_of_nonneg k0
      go_upto_if 33 with fail
      go_cut [3] (fun v wx => v = .int .u32 f ∧ x0.w = wx)
      case first =>
        rcases hff with ⟨h3, rfl⟩ | ⟨h3, rfl⟩
        · have h3' : (k : Int) % 3 = 1 := by omega
          have b3 : ((k : Int).tmod 3 == 1) = true := by simp [h3]
          have b3' : ((k : Int) % 3 == 1) = true := by simp [h3']
          go_wp2_with fail
          go_meet
          exact ⟨rfl, rfl⟩
        · have h3' : ¬ (k : Int) % 3 = 1 := by omega
          have b3 : ((k : Int).tmod 3 == 1) = false := by simp [h3]
          have b3' : ((k : Int) % 3 == 1) = false := by simp [h3']
          go_wp2_with fail
          go_meet
          exact ⟨rfl, rfl⟩
      case rest =>
        obtain ⟨rfl, rfl⟩ := hcut
        clear hff e3 hf
        by_cases h64 : k < 64
        · have b64 : decide ((k : Int) < 64) = true := decide_eq_true (by omega)
          have b64' : decide (k < 64) = true := decide_eq_true h64
          go_wp2_with (first
            | (go_at_call 31; (with_reducible refine Calls.mono (cs1 _) ?_); clear cs1; rintro e w' ⟨v1, L1, rfl, R1, B1, l1, x1, rfl⟩)
            | (go_at_call 31; (with_reducible refine Calls.mono (cs2 _) ?_); clear cs2; rintro e w' ⟨v2, L2, rfl, R2, B2, l2, x2, rfl⟩)
            | (go_at_call 18; (with_reducible refine (two_any L1 L2 v1 v2 x2.w (R1.out.up upI) R2.out B1.out B2.out).mono ?_); rintro e w' ⟨rfl, x3, rfl⟩)
            | (go_at_call 32; (with_reducible refine (one_any L1 0 v1 x3.w (g.up upI) (R1.out.up upI) B1.out (by decide) (by decide)).mono ?_); rintro e w' ⟨rfl, x4, rfl⟩)
            | (go_at_call 32; (with_reducible refine (one_any L1 3 v1 x4.w (g.up upI) (R1.out.up upI) B1.out (by decide) (by decide)).mono ?_); rintro e w' ⟨rfl, x5, rfl⟩)
            | (go_at_call 31; (with_reducible refine Calls.mono (cs3 _) ?_); clear cs3; rintro e w' ⟨v6, L6, rfl, R6, B6, l6, x6, rfl⟩)
            | (go_at_call 32; (with_reducible refine (one_any L6 4294967293 v6 x6.w (g.up upI) R6.out B6.out (by decide) (by decide)).mono ?_); rintro e w' ⟨rfl, x7, rfl⟩))
          go_roundw
          case rel => exact ⟨k + 1, by omega, by go_num, mkI⟩
          case measure => simp [intOf] <;> omega
        · have b64 : decide ((k : Int) < 64) = false := decide_eq_false (by omega)
          have b64' : decide (k < 64) = false := decide_eq_false h64
          go_wp2_with (first
            | (go_at_call 31; (with_reducible refine Calls.mono (cs1 _) ?_); clear cs1; rintro e w' ⟨v1, L1, rfl, R1, B1, l1, x1, rfl⟩)
            | (go_at_call 31; (with_reducible refine Calls.mono (cs2 _) ?_); clear cs2; rintro e w' ⟨v2, L2, rfl, R2, B2, l2, x2, rfl⟩)
            | (go_at_call 18; (with_reducible refine (two_any L1 L2 v1 v2 x2.w (R1.out.up upI) R2.out B1.out B2.out).mono ?_); rintro e w' ⟨rfl, x3, rfl⟩))
          go_roundw
          case rel => exact ⟨k + 1, by omega, by go_num, mkI⟩
          case measure => simp [intOf] <;> omega
    · have hge : ¬ (k : Int) < 4096 := by omega
      obtain ⟨kA, hkA⟩ : ∃ kA, k = kA := ⟨_, rfl⟩
      subst hkA
      clear hlt hk
      go_upto_region 13 with fail
      clear hge
      obtain ⟨A, hA⟩ : ∃ A, x0.w.heap.size = A := ⟨_, rfl⟩
      refine wp_letterS (fun Z => UpI w Z ∧ ∀ j : Nat, j < 8 → ∃ n : Int, Z.cell? ⟨A, j, none⟩ = some (.int .u32 n) ∧ 0 ≤ n ∧ n < 4294967296) ?hst ?_
      case hst =>
        subst hA
        refine ⟨inferInstance, fun j hj => ?_⟩
        rw [World.cell?_alloc_at _ _ _ _ rfl]
        have h8 : j = 0 ∨ j = 1 ∨ j = 2 ∨ j = 3 ∨ j = 4 ∨ j = 5 ∨ j = 6 ∨ j = 7 := by omega
        rcases h8 with rfl | rfl | rfl | rfl | rfl | rfl | rfl | rfl <;> exact ⟨_, rfl, by decide, by decide⟩
      (try rw [hA])
      rintro Z ⟨uZ, hnum⟩
      haveI := uZ
      haveI : LtSize A Z := ⟨by obtain ⟨n, hn, _⟩ := hnum 0 (by decide); exact cell_lt' hn⟩
      clear hA
      go_wp2_with fail
      go_loopw [71] (fun i wr => ∃ k : Nat, k ≤ 4096 ∧ i = .int .i64 (k : Int) ∧ ∃ x : Ext Z, wr = x.w) (fun i _ => 4096 - (intOf i).toNat)
      case atStart => exact ⟨0, Nat.zero_le _, rfl, (Up.refl Z).mk⟩
      case round =>
        obtain ⟨k, hk, rfl, x0, rfl⟩ := hrel
        by_cases hlt : k < 4096
        · have hlt' : (k : Int) < 4096 := by omega
          have k0 : (0 : Int) ≤ (k : Int) := by omega
          obtain ⟨n1, q1, n10, n11⟩ := hnum (k % 8) (by omega)
          obtain ⟨n2, q2, n20, n21⟩ := hnum (k / 8 % 8) (by omega)
          obtain ⟨n3, q3, n30, n31⟩ := hnum (k / 64 % 8) (by omega)
          obtain ⟨n4, q4, n40, n41⟩ := hnum (k / 512) (by omega)
          obtain ⟨n5, q5, n50, n51⟩ := hnum ((k + k / 9) % 8) (by omega)
          haveI : In64 ((k : Int) / 8) := ⟨by omega⟩
          haveI : In64 ((k : Int) / 64) := ⟨by omega⟩
          haveI : In64 ((k : Int) / 512) := ⟨by omega⟩
          haveI : In64 ((k : Int) / 9) := ⟨by omega⟩
          haveI : In64 ((k : Int) + (k : Int) / 9) := ⟨by omega⟩
          have g1 : (0 : Int) ≤ (k : Int) / 8 := by omega
          have g2 : (0 : Int) ≤ (k : Int) / 64 := by omega
          have g3 : (0 : Int) ≤ (k : Int) / 512 := by omega
          have g4 : (k : Int) / 512 < 8 := by omega
          have g5 : (0 : Int) ≤ (k : Int) + (k : Int) / 9 := by omega
          have g6 : (0 : Int) ≤ (k : Int) / 8 % 8 := by omega
          have g7 : (k : Int) / 8 % 8 < 8 := by omega
          have g8' : (0 : Int) ≤ (k : Int) / 64 % 8 := by omega
          have g9 : (k : Int) / 64 % 8 < 8 := by omega
          have g10 : (0 : Int) ≤ ((k : Int) + (k : Int) / 9) % 8 := by omega
          have g11 : ((k : Int) + (k : Int) / 9) % 8 < 8 := by omega
          have g12 : (((k : Int) + (k : Int) / 9) % 8).toNat = (k + k / 9) % 8 := by omega
          have g13 : ((k : Int) / 8 % 8).toNat = k / 8 % 8 := by omega
          have g14 : ((k : Int) / 64 % 8).toNat = k / 64 % 8 := by omega
          have g15 : ((k : Int) / 512).toNat = k / 512 := by omega
          have g16 : ((k : Int) % 8).toNat = k % 8 := by omega
          have g17 : (0 : Int) ≤ (k : Int) % 8 := by omega
          have g18 : (k : Int) % 8 < 8 := by omega
          have t1 : (k : Int).tmod 8 = (k : Int) % 8 := Int.tmod_eq_emod_of_nonneg k0
          have t2 : (k : Int).tdiv 8 = (k : Int) / 8 := Int.tdiv_eq_ediv_of_nonneg k0
          have t3 : ((k : Int) / 8).tmod 8 = (k : Int) / 8 % 8 := Int.tmod_eq_emod_of_nonneg g1
          have t4 : (k : Int).tdiv 64 = (k : Int) / 64 := Int.tdiv_eq_ediv_of_nonneg k0
          have t5 : ((k : Int) / 64).tmod 8 = (k : Int) / 64 % 8 := Int.tmod_eq_emod_of_nonneg g2
          have t6 : (k : Int).tdiv 512 = (k : Int) / 512 := Int.tdiv_eq_ediv_of_nonneg k0
          have t7 : (k : Int).tdiv 9 = (k : Int) / 9 := Int.tdiv_eq_ediv_of_nonneg k0
          have t8 : ((k : Int) + (k : Int) / 9).tmod 8 = ((k : Int) + (k : Int) / 9) % 8 := Int.tmod_eq_emod_of_nonneg g5
          clear hnum
          go_upto_region 16 with fail
          go_cut [8] (fun v wx => UpI x0.w wx ∧ ∃ g8, v = .slice (some ⟨g8, 0, none⟩) 2 2 ∧ Hid (SpRow wx (.slice (some ⟨g8, 0, none⟩) 2 2) [(n1, n2), (n3, n4)]))
          case first =>
            go_region
            all_goals
              go_wp2_with fail
              go_meet
              exact ⟨inferInstance, _, rfl, Lib.hid (row_two _ (n1, n2) (n3, n4))⟩
          case rest =>
            obtain ⟨u9, g8, rfl, R8⟩ := hcut
            haveI := u9
            haveI : UpI Z wc := ⟨x0.up.trans u9.up⟩
            haveI : UpI w wc := ⟨uZ.up.trans (upI : Up Z wc)⟩
            have q5' := (upI : Up Z wc).cell_some q5
            haveI : LtSize A wc := ⟨cell_lt' q5'⟩
            have hb1 : ∀ x ∈ [(n1, n2), (n3, n4)], SpB x := fun x hx => by
              simp only [List.mem_cons, List.mem_nil_iff, or_false] at hx
              rcases hx with rfl | rfl
              · exact ⟨n10, n11, n20, n21⟩
              · exact ⟨n30, n31, n40, n41⟩
            have hb2 : ∀ x ∈ [((n3, n4) : Sp)], SpB x := fun x hx => hb1 x (List.mem_cons_of_mem _ hx)
            have hb3 : ∀ x ∈ [((n1, n2) : Sp)], SpB x := fun x hx => by rw [List.mem_singleton.1 hx]; exact hb1 _ (List.mem_cons_self ..)
            have RD := Lib.hid (show SpRow wc (.slice (some ⟨g8, 2, none⟩) 1 1) [(n3, n4)] from by have h := R8.out; have h2 := RowOf.drop h 1 rfl (by decide) 1 (by decide); exact h2)
            have RT := Lib.hid (show SpRow wc (.slice (some ⟨g8, 0, none⟩) 1 2) [(n1, n2)] from by have h2 := RowOf.take (l := [(n1, n2), (n3, n4)]) R8.out 1 (by simp); exact h2)
            go_wp2_with (first
              | (go_at_call 32; (with_reducible refine (one_any [(n1, n2), (n3, n4)] n5 _ wc (g.up upI) R8.out hb1 n50 n51).mono ?_); rintro e w' ⟨rfl, y1, rfl⟩)
              | (go_at_call 18; (with_reducible refine (two_any [(n1, n2), (n3, n4)] [(n3, n4)] _ _ y1.w (R8.out.up upI) (RD.out.up upI) hb1 hb2).mono ?_); rintro e w' ⟨rfl, y2, rfl⟩)
              | (go_at_call 18; (with_reducible refine (two_any [(n1, n2)] [(n1, n2), (n3, n4)] _ _ y2.w (RT.out.up upI) (R8.out.up upI) hb3 hb1).mono ?_); rintro e w' ⟨rfl, y3, rfl⟩))
            go_roundw
            case rel => exact ⟨k + 1, by omega, by go_num, mkI⟩
            case measure => simp [intOf] <;> omega
        · have hge : ¬ (k : Int) < 4096 := by omega
          clear hlt hk
          go_upto_region 21 with fail
          clear hge hnum
          obtain ⟨B, hB⟩ : ∃ B, x0.w.heap.size = B := ⟨_, rfl⟩
          refine wp_letterS (fun Z3 => UpI w Z3 ∧ ∀ j : Nat, j < 6 → ∃ t : ByteArray, Z3.cell? ⟨B, j, none⟩ = some (.string t) ∧ t.size ≤ 20) ?hst3 ?_
          case hst3 =>
            subst hB
            refine ⟨⟨(uZ.up.trans x0.up).alloc _⟩, fun j hj => ?_⟩
            rw [World.cell?_alloc_at _ _ _ _ rfl]
            have h6 : j = 0 ∨ j = 1 ∨ j = 2 ∨ j = 3 ∨ j = 4 ∨ j = 5 := by omega
            rcases h6 with rfl | rfl | rfl | rfl | rfl | rfl <;> exact ⟨_, rfl, by decide⟩
          (try rw [hB])
          rintro Z3 ⟨uZ3, h3⟩
          haveI := uZ3
          clear hB uZ
          go_loopw [127] (fun i wr => ∃ q : Nat, q ≤ 6 ∧ i = .int .i64 (q : Int) ∧ ∃ x : Ext Z3, wr = x.w) (fun i _ => 6 - (intOf i).toNat)
          case atStart => exact ⟨0, by omega, rfl, (Up.refl Z3).mk⟩
          case round =>
            obtain ⟨q, hq, rfl, x3, rfl⟩ := hrel
            by_cases hql : q < 6
            · have hql' : (q : Int) < 6 := by omega
              have q0 : (0 : Int) ≤ (q : Int) := by omega
              obtain ⟨sb, cs, hs⟩ := h3 q hql
              haveI : LtSize B Z3 := ⟨cell_lt' cs⟩
              haveI : In64 ((sb.size : Int) + 1) := ⟨by omega⟩
              clear h3
              go_upto_region 24 with fail
              go_loopw [134] (fun i wr => ∃ p : Nat, p ≤ sb.size + 1 ∧ i = .int .i64 (p : Int) ∧ ∃ y : Ext Z3, wr = y.w) (fun i _ => sb.size + 1 - (intOf i).toNat)
              case atStart => exact ⟨0, by omega, rfl, mkI⟩
              case round =>
                obtain ⟨p, hp, rfl, y3, rfl⟩ := hrel
                by_cases hpl : p ≤ sb.size
                · have hp2 : (p : Int) ≤ (sb.size : Int) := by omega
                  have hp3 : (p : Int) < (sb.size : Int) + 1 := by omega
                  have p0 : (0 : Int) ≤ (p : Int) := by omega
                  haveI : In64 ((p : Int) + 1) := ⟨by omega⟩
                  go_upto_region 27 with fail
                  obtain ⟨C, hC⟩ : ∃ C, y3.w.heap.size = C := ⟨_, rfl⟩
                  refine wp_letterS (fun W4 => UpI Z3 W4 ∧ ∀ j : Nat, j < 8 → ∃ t : ByteArray, W4.cell? ⟨C, j, none⟩ = some (.string t) ∧ t.size ≤ 1) ?hst4 ?_
                  case hst4 =>
                    subst hC
                    refine ⟨inferInstance, fun j hj => ?_⟩
                    rw [World.cell?_alloc_at _ _ _ _ rfl]
                    have h8 : j = 0 ∨ j = 1 ∨ j = 2 ∨ j = 3 ∨ j = 4 ∨ j = 5 ∨ j = 6 ∨ j = 7 := by omega
                    rcases h8 with rfl | rfl | rfl | rfl | rfl | rfl | rfl | rfl <;> exact ⟨_, rfl, by decide⟩
                  (try rw [hC])
                  rintro W4 ⟨u4, h4⟩
                  haveI := u4
                  haveI : UpI w W4 := ⟨uZ3.up.trans u4.up⟩
                  clear hC
                  go_loopw [139] (fun i wr => ∃ j : Nat, j ≤ 8 ∧ i = .int .i64 (j : Int) ∧ ∃ y : Ext W4, wr = y.w) (fun i _ => 8 - (intOf i).toNat)
                  case atStart => exact ⟨0, by omega, rfl, (Up.refl W4).mk⟩
                  case round =>
                    obtain ⟨j, hj, rfl, v4, rfl⟩ := hrel
                    by_cases hjl : j < 8
                    · have hjl' : (j : Int) < 8 := by omega
                      have j0 : (0 : Int) ≤ (j : Int) := by omega
                      obtain ⟨ch, ct, ht⟩ := h4 j hjl
                      haveI : LtSize C W4 := ⟨cell_lt' ct⟩
                      clear h4
                      haveI : UpI w v4.w := ⟨(upI : Up w W4).trans v4.up⟩
                      go_upto_region 29 with fail
                      go_cut [190] (fun v wx => v = .bool false ∧ UpI v4.w wx)
                      case first =>
                        have n1 : ¬ 9223372036854775807 < p + ch.size := by omega
                        have n2 : ¬ 9223372036854775807 < p + ch.size + (sb.size - p) := by omega
                        have n3 : ¬ 9223372036854775807 < p + ch.size + (sb.size - (p + 1)) := by omega
                        have n4 : ¬ 9223372036854775807 < p + (sb.size - p) := by omega
                        have n5 : ¬ 9223372036854775807 < p + (sb.size - (p + 1)) := by omega
                        have hm1 : min p sb.size = p := by omega
                        by_cases hpN : p < sb.size
                        · have hpN' : decide ((p : Int) < (sb.size : Int)) = true := decide_eq_true (by omega)
                          have hpN2 : (p : Int) + 1 ≤ (sb.size : Int) := by omega
                          have p10 : (0 : Int) ≤ (p : Int) + 1 := by omega
                          refine wp_region_turn (by kernel_rfl) ?_
                          generalize hy0 : World.drew v4.w = Y0
                          haveI : UpI v4.w Y0 := ⟨hy0 ▸ (Up.refl v4.w).drew⟩
                          haveI : UpI w Y0 := ⟨(upI : Up w v4.w).trans (upI : Up v4.w Y0)⟩
                          clear hy0
                          refine any_take (i := 0) (v := ?v1) rfl (by kernel_rfl) (by kernel_rfl) (by kernel_rfl) (Or.inl ⟨by kernel_rfl, ?hy1⟩) ?rest1
                          case hy1 => (intro w; go_simp; (try with_reducible rfl))
                          (try simp only [Act.put, List.getElem_toArray, List.getElem_cons_succ, List.getElem_cons_zero, List.setIfInBounds_toArray, List.set_cons_succ, List.set_cons_zero])
                          refine any_take (i := 1) (v := ?v2) rfl (by kernel_rfl) (by kernel_rfl) (by kernel_rfl) (Or.inl ⟨by kernel_rfl, ?hy2⟩) ?rest2
                          case hy2 => (intro w; go_simp; (try with_reducible rfl))
                          (try simp only [Act.put, List.getElem_toArray, List.getElem_cons_succ, List.getElem_cons_zero, List.setIfInBounds_toArray, List.set_cons_succ, List.set_cons_zero])
                          refine any_take (i := 2) (v := ?v3) rfl (by kernel_rfl) (by kernel_rfl) (by kernel_rfl) (Or.inl ⟨by kernel_rfl, ?hy3⟩) ?rest3
                          case hy3 => (intro w; go_simp; (try with_reducible rfl))
                          (try simp only [Act.put, List.getElem_toArray, List.getElem_cons_succ, List.getElem_cons_zero, List.setIfInBounds_toArray, List.set_cons_succ, List.set_cons_zero])
                          refine any_take (i := 3) (v := ?v4) rfl (by kernel_rfl) (by kernel_rfl) (by kernel_rfl) (Or.inl ⟨by kernel_rfl, ?hy4⟩) ?rest4
                          case hy4 => (intro w; go_simp; (try with_reducible rfl))
                          (try simp only [Act.put, List.getElem_toArray, List.getElem_cons_succ, List.getElem_cons_zero, List.setIfInBounds_toArray, List.set_cons_succ, List.set_cons_zero])
                          refine any_take (i := 4) (v := ?v5) rfl (by kernel_rfl) (by kernel_rfl) (by kernel_rfl) (Or.inl ⟨by kernel_rfl, ?hy5⟩) ?rest5
                          case hy5 => (intro w; go_simp; (try with_reducible rfl))
                          (try simp only [Act.put, List.getElem_toArray, List.getElem_cons_succ, List.getElem_cons_zero, List.setIfInBounds_toArray, List.set_cons_succ, List.set_cons_zero])
                          refine any_take (i := 5) (v := ?v6) rfl (by kernel_rfl) (by kernel_rfl) (by kernel_rfl) (Or.inl ⟨by kernel_rfl, ?hy6⟩) ?rest6
                          case hy6 => (intro w; go_simp; (try with_reducible rfl))
                          (try simp only [Act.put, List.getElem_toArray, List.getElem_cons_succ, List.getElem_cons_zero, List.setIfInBounds_toArray, List.set_cons_succ, List.set_cons_zero])
                          refine any_take (i := 6) (v := ?v7) rfl (by kernel_rfl) (by kernel_rfl) (by kernel_rfl) (Or.inl ⟨by kernel_rfl, ?hy7⟩) ?rest7
                          case hy7 => (intro w; go_simp; (try with_reducible rfl))
                          (try simp only [Act.put, List.getElem_toArray, List.getElem_cons_succ, List.getElem_cons_zero, List.setIfInBounds_toArray, List.set_cons_succ, List.set_cons_zero])
                          refine any_take (i := 7) (v := ?v8) rfl (by kernel_rfl) (by kernel_rfl) (by kernel_rfl) (Or.inl ⟨by kernel_rfl, ?hy8⟩) ?rest8
                          case hy8 => (intro w; go_simp; (try with_reducible rfl))
                          (try simp only [Act.put, List.getElem_toArray, List.getElem_cons_succ, List.getElem_cons_zero, List.setIfInBounds_toArray, List.set_cons_succ, List.set_cons_zero])
                          refine any_take (i := 8) (v := ?v9) rfl (by kernel_rfl) (by kernel_rfl) (by kernel_rfl) (Or.inl ⟨by kernel_rfl, ?hy9⟩) ?rest9
                          case hy9 => (intro w; go_simp; (try with_reducible rfl))
                          (try simp only [Act.put, List.getElem_toArray, List.getElem_cons_succ, List.getElem_cons_zero, List.setIfInBounds_toArray, List.set_cons_succ, List.set_cons_zero])
                          obtain ⟨S9, hS9⟩ : ∃ S, sb.extract 0 p ++ ch ++ sb.extract p sb.size = S := ⟨_, rfl⟩
                          (try rw [hS9])
                          refine wpAny_ready (rs := [9]) (by kernel_rfl) (by simp) ?_
                          refine AllReady.cons rfl (fun K hK => ?_) AllReady.nil
                          refine stepG_call (by kernel_rfl) 27 _ _ rfl #[.string S9, .slice none 0 0] (by kernel_rfl) (fun w => by kernel_rfl) (.bool true) (texts_str S9 [] (.slice none 0 0) Y0 (g.up (upI : Up w Y0)) (RowOf.nil _) pb_nil) ?_
                          intro y1
                          refine hK _ _ ?_; clear hK K; (try simp only [Act.put, List.getElem_toArray, List.getElem_cons_succ, List.getElem_cons_zero, List.setIfInBounds_toArray, List.set_cons_succ, List.set_cons_zero])
                          haveI : UpI v4.w y1.w := ⟨(upI : Up v4.w Y0).trans y1.up⟩
                          haveI : UpI w y1.w := ⟨(upI : Up w Y0).trans y1.up⟩
                          refine any_take (i := 10) (v := ?v10) rfl (by kernel_rfl) (by kernel_rfl) (by kernel_rfl) (Or.inl ⟨by kernel_rfl, ?hy10⟩) ?rest10
                          case hy10 => (intro w; go_simp; (try with_reducible rfl))
                          (try simp only [Act.put, List.getElem_toArray, List.getElem_cons_succ, List.getElem_cons_zero, List.setIfInBounds_toArray, List.set_cons_succ, List.set_cons_zero])
                          refine any_take (i := 11) (v := ?v11) rfl (by kernel_rfl) (by kernel_rfl) (by kernel_rfl) (Or.inl ⟨by kernel_rfl, ?hy11⟩) ?rest11
                          case hy11 => (intro w; go_simp; (try with_reducible rfl))
                          (try simp only [Act.put, List.getElem_toArray, List.getElem_cons_succ, List.getElem_cons_zero, List.setIfInBounds_toArray, List.set_cons_succ, List.set_cons_zero])
                          refine any_take (i := 12) (v := ?v12) rfl (by kernel_rfl) (by kernel_rfl) (by kernel_rfl) (Or.inl ⟨by kernel_rfl, ?hy12⟩) ?rest12
                          case hy12 => (intro w; go_simp; (try with_reducible rfl))
                          (try simp only [Act.put, List.getElem_toArray, List.getElem_cons_succ, List.getElem_cons_zero, List.setIfInBounds_toArray, List.set_cons_succ, List.set_cons_zero])
                          refine any_take (i := 13) (v := ?v13) rfl (by kernel_rfl) (by kernel_rfl) (by kernel_rfl) (Or.inl ⟨by kernel_rfl, ?hy13⟩) ?rest13
                          case hy13 => (intro w; go_simp; (try with_reducible rfl))
                          (try simp only [Act.put, List.getElem_toArray, List.getElem_cons_succ, List.getElem_cons_zero, List.setIfInBounds_toArray, List.set_cons_succ, List.set_cons_zero])
                          refine any_take (i := 14) (v := ?v14) rfl (by kernel_rfl) (by kernel_rfl) (by kernel_rfl) (Or.inl ⟨by kernel_rfl, ?hy14⟩) ?rest14
                          case hy14 => (intro w; go_simp; (try with_reducible rfl))
                          (try simp only [Act.put, List.getElem_toArray, List.getElem_cons_succ, List.getElem_cons_zero, List.setIfInBounds_toArray, List.set_cons_succ, List.set_cons_zero])
                          refine any_take (i := 15) (v := ?v15) rfl (by kernel_rfl) (by kernel_rfl) (by kernel_rfl) (Or.inl ⟨by kernel_rfl, ?hy15⟩) ?rest15
                          case hy15 => (intro w; go_simp; (try with_reducible rfl))
                          (try simp only [Act.put, List.getElem_toArray, List.getElem_cons_succ, List.getElem_cons_zero, List.setIfInBounds_toArray, List.set_cons_succ, List.set_cons_zero])
                          refine any_take (i := 16) (v := ?v16) rfl (by kernel_rfl) (by kernel_rfl) (by kernel_rfl) (Or.inl ⟨by kernel_rfl, ?hy16⟩) ?rest16
                          case hy16 => (intro w; go_simp; (try with_reducible rfl))
                          (try simp only [Act.put, List.getElem_toArray, List.getElem_cons_succ, List.getElem_cons_zero, List.setIfInBounds_toArray, List.set_cons_succ, List.set_cons_zero])
                          refine any_take (i := 17) (v := ?v17) rfl (by kernel_rfl) (by kernel_rfl) (by kernel_rfl) (Or.inl ⟨by kernel_rfl, ?hy17⟩) ?rest17
                          case hy17 => (intro w; go_simp; (try with_reducible rfl))
                          (try simp only [Act.put, List.getElem_toArray, List.getElem_cons_succ, List.getElem_cons_zero, List.setIfInBounds_toArray, List.set_cons_succ, List.set_cons_zero])
                          refine any_take (i := 18) (v := ?v18) rfl (by kernel_rfl) (by kernel_rfl) (by kernel_rfl) (Or.inl ⟨by kernel_rfl, ?hy18⟩) ?rest18
                          case hy18 => (intro w; go_simp; (try with_reducible rfl))
                          (try simp only [Act.put, List.getElem_toArray, List.getElem_cons_succ, List.getElem_cons_zero, List.setIfInBounds_toArray, List.set_cons_succ, List.set_cons_zero])
                          refine any_take (i := 19) (v := ?v19) rfl (by kernel_rfl) (by kernel_rfl) (by kernel_rfl) (Or.inl ⟨by kernel_rfl, ?hy19⟩) ?rest19
                          case hy19 => (intro w; go_simp; (try with_reducible rfl))
                          (try simp only [Act.put, List.getElem_toArray, List.getElem_cons_succ, List.getElem_cons_zero, List.setIfInBounds_toArray, List.set_cons_succ, List.set_cons_zero])
                          refine any_take (i := 20) (v := ?v20) rfl (by kernel_rfl) (by kernel_rfl) (by kernel_rfl) (Or.inl ⟨by kernel_rfl, ?hy20⟩) ?rest20
                          case hy20 => (intro w; go_simp; (try with_reducible rfl))
                          (try simp only [Act.put, List.getElem_toArray, List.getElem_cons_succ, List.getElem_cons_zero, List.setIfInBounds_toArray, List.set_cons_succ, List.set_cons_zero])
                          refine any_take (i := 21) (v := ?v21) rfl (by kernel_rfl) (by kernel_rfl) (by kernel_rfl) (Or.inl ⟨by kernel_rfl, ?hy21⟩) ?rest21
                          case hy21 => (intro w; go_simp; (try with_reducible rfl))
                          (try simp only [Act.put, List.getElem_toArray, List.getElem_cons_succ, List.getElem_cons_zero, List.setIfInBounds_toArray, List.set_cons_succ, List.set_cons_zero])
                          refine any_take (i := 22) (v := ?v22) rfl (by kernel_rfl) (by kernel_rfl) (by kernel_rfl) (Or.inl ⟨by kernel_rfl, ?hy22⟩) ?rest22
                          case hy22 => (intro w; go_simp; (try with_reducible rfl))
                          (try simp only [Act.put, List.getElem_toArray, List.getElem_cons_succ, List.getElem_cons_zero, List.setIfInBounds_toArray, List.set_cons_succ, List.set_cons_zero])
                          refine any_take (i := 23) (v := ?v23) rfl (by kernel_rfl) (by kernel_rfl) (by kernel_rfl) (Or.inl ⟨by kernel_rfl, ?hy23⟩) ?rest23
                          case hy23 => (intro w; go_simp; (try with_reducible rfl))
                          (try simp only [Act.put, List.getElem_toArray, List.getElem_cons_succ, List.getElem_cons_zero, List.setIfInBounds_toArray, List.set_cons_succ, List.set_cons_zero])
                          refine any_take (i := 24) (v := ?v24) rfl (by kernel_rfl) (by kernel_rfl) (by kernel_rfl) (Or.inl ⟨by kernel_rfl, ?hy24⟩) ?rest24
                          case hy24 => (intro w; go_simp; (try with_reducible rfl))
                          (try simp only [Act.put, List.getElem_toArray, List.getElem_cons_succ, List.getElem_cons_zero, List.setIfInBounds_toArray, List.set_cons_succ, List.set_cons_zero])
                          refine any_take (i := 25) (v := ?v25) rfl (by kernel_rfl) (by kernel_rfl) (by kernel_rfl) (Or.inl ⟨by kernel_rfl, ?hy25⟩) ?rest25
                          case hy25 => (intro w; go_simp; (try with_reducible rfl))
                          (try simp only [Act.put, List.getElem_toArray, List.getElem_cons_succ, List.getElem_cons_zero, List.setIfInBounds_toArray, List.set_cons_succ, List.set_cons_zero])
                          refine any_take (i := 26) (v := ?v26) rfl (by kernel_rfl) (by kernel_rfl) (by kernel_rfl) (Or.inl ⟨by kernel_rfl, ?hy26⟩) ?rest26
                          case hy26 => (intro w; go_simp; (try with_reducible rfl))
                          (try simp only [Act.put, List.getElem_toArray, List.getElem_cons_succ, List.getElem_cons_zero, List.setIfInBounds_toArray, List.set_cons_succ, List.set_cons_zero])
                          refine any_take (i := 27) (v := ?v27) rfl (by kernel_rfl) (by kernel_rfl) (by kernel_rfl) (Or.inl ⟨by kernel_rfl, ?hy27⟩) ?rest27
                          case hy27 => (intro w; go_simp; (try with_reducible rfl))
                          (try simp only [Act.put, List.getElem_toArray, List.getElem_cons_succ, List.getElem_cons_zero, List.setIfInBounds_toArray, List.set_cons_succ, List.set_cons_zero])
                          refine any_take (i := 28) (v := ?v28) rfl (by kernel_rfl) (by kernel_rfl) (by kernel_rfl) (Or.inl ⟨by kernel_rfl, ?hy28⟩) ?rest28
                          case hy28 => (intro w; go_simp; (try with_reducible rfl))
                          (try simp only [Act.put, List.getElem_toArray, List.getElem_cons_succ, List.getElem_cons_zero, List.setIfInBounds_toArray, List.set_cons_succ, List.set_cons_zero])
                          refine wpAny_ready (rs := [29]) (by kernel_rfl) (by simp) ?_
                          refine AllReady.cons rfl (fun K hK => ?_) AllReady.nil
                          go_simp
                          refine hK _ _ ?_; clear hK K; (try simp only [Act.put, List.getElem_toArray, List.getElem_cons_succ, List.getElem_cons_zero, List.setIfInBounds_toArray, List.set_cons_succ, List.set_cons_zero])
                          have hrow := Lib.hid (pf_two y1.w)
                          generalize hz : World.alloc y1.w _ = Y2 at hrow ⊢
                          haveI : UpI y1.w Y2 := ⟨hz ▸ (Up.refl y1.w).alloc _⟩
                          clear hz
                          haveI : UpI v4.w Y2 := ⟨(upI : Up v4.w y1.w).trans (upI : Up y1.w Y2)⟩
                          haveI : UpI w Y2 := ⟨(upI : Up w y1.w).trans (upI : Up y1.w Y2)⟩
                          obtain ⟨S30, hS30⟩ : ∃ S, sb.extract 0 p ++ ch ++ sb.extract (p + 1) sb.size = S := ⟨_, rfl⟩
                          (try rw [hS30])
                          refine wpAny_ready (rs := [30]) (by kernel_rfl) (by simp) ?_
                          refine AllReady.cons rfl (fun K hK => ?_) AllReady.nil
                          refine stepG_call (by kernel_rfl) 27 _ _ rfl #[.string S30, .slice (some ⟨y1.w.heap.size, 0, none⟩) 2 2] (by kernel_rfl) (fun w => by kernel_rfl) (.bool true) (texts_str S30 [(8, 29), (16, 28)] (.slice (some ⟨y1.w.heap.size, 0, none⟩) 2 2) Y2 (g.up (upI : Up w Y2)) hrow.out pb_two) ?_
                          intro y3
                          refine hK _ _ ?_; clear hK K; (try simp only [Act.put, List.getElem_toArray, List.getElem_cons_succ, List.getElem_cons_zero, List.setIfInBounds_toArray, List.set_cons_succ, List.set_cons_zero])
                          haveI : UpI v4.w y3.w := ⟨(upI : Up v4.w Y2).trans y3.up⟩
                          haveI : UpI w y3.w := ⟨(upI : Up w Y2).trans y3.up⟩
                          clear hrow
                          refine any_take (i := 31) (v := ?v29) rfl (by kernel_rfl) (by kernel_rfl) (by kernel_rfl) (Or.inl ⟨by kernel_rfl, ?hy29⟩) ?rest29
                          case hy29 => (intro w; go_simp; (try with_reducible rfl))
                          (try simp only [Act.put, List.getElem_toArray, List.getElem_cons_succ, List.getElem_cons_zero, List.setIfInBounds_toArray, List.set_cons_succ, List.set_cons_zero])
                          refine any_take (i := 32) (v := ?v30) rfl (by kernel_rfl) (by kernel_rfl) (by kernel_rfl) (Or.inl ⟨by kernel_rfl, ?hy30⟩) ?rest30
                          case hy30 => (intro w; go_simp; (try with_reducible rfl))
                          (try simp only [Act.put, List.getElem_toArray, List.getElem_cons_succ, List.getElem_cons_zero, List.setIfInBounds_toArray, List.set_cons_succ, List.set_cons_zero])
                          refine any_take (i := 33) (v := ?v31) rfl (by kernel_rfl) (by kernel_rfl) (by kernel_rfl) (Or.inl ⟨by kernel_rfl, ?hy31⟩) ?rest31
                          case hy31 => (intro w; go_simp; (try with_reducible rfl))
                          (try simp only [Act.put, List.getElem_toArray, List.getElem_cons_succ, List.getElem_cons_zero, List.setIfInBounds_toArray, List.set_cons_succ, List.set_cons_zero])
                          refine any_take (i := 34) (v := ?v32) rfl (by kernel_rfl) (by kernel_rfl) (by kernel_rfl) (Or.inl ⟨by kernel_rfl, ?hy32⟩) ?rest32
                          case hy32 => (intro w; go_simp; (try with_reducible rfl))
                          (try simp only [Act.put, List.getElem_toArray, List.getElem_cons_succ, List.getElem_cons_zero, List.setIfInBounds_toArray, List.set_cons_succ, List.set_cons_zero])
                          refine any_take (i := 35) (v := ?v33) rfl (by kernel_rfl) (by kernel_rfl) (by kernel_rfl) (Or.inl ⟨by kernel_rfl, ?hy33⟩) ?rest33
                          case hy33 => (intro w; go_simp; (try with_reducible rfl))
                          (try simp only [Act.put, List.getElem_toArray, List.getElem_cons_succ, List.getElem_cons_zero, List.setIfInBounds_toArray, List.set_cons_succ, List.set_cons_zero])
                          refine any_take (i := 36) (v := ?v34) rfl (by kernel_rfl) (by kernel_rfl) (by kernel_rfl) (Or.inl ⟨by kernel_rfl, ?hy34⟩) ?rest34
                          case hy34 => (intro w; go_simp; (try with_reducible rfl))
                          (try simp only [Act.put, List.getElem_toArray, List.getElem_cons_succ, List.getElem_cons_zero, List.setIfInBounds_toArray, List.set_cons_succ, List.set_cons_zero])
                          refine any_take (i := 37) (v := ?v35) rfl (by kernel_rfl) (by kernel_rfl) (by kernel_rfl) (Or.inl ⟨by kernel_rfl, ?hy35⟩) ?rest35
                          case hy35 => (intro w; go_simp; (try with_reducible rfl))
                          (try simp only [Act.put, List.getElem_toArray, List.getElem_cons_succ, List.getElem_cons_zero, List.setIfInBounds_toArray, List.set_cons_succ, List.set_cons_zero])
                          refine any_take (i := 38) (v := ?v36) rfl (by kernel_rfl) (by kernel_rfl) (by kernel_rfl) (Or.inl ⟨by kernel_rfl, ?hy36⟩) ?rest36
                          case hy36 => (intro w; go_simp; (try with_reducible rfl))
                          (try simp only [Act.put, List.getElem_toArray, List.getElem_cons_succ, List.getElem_cons_zero, List.setIfInBounds_toArray, List.set_cons_succ, List.set_cons_zero])
                          refine any_take (i := 39) (v := ?v37) rfl (by kernel_rfl) (by kernel_rfl) (by kernel_rfl) (Or.inl ⟨by kernel_rfl, ?hy37⟩) ?rest37
                          case hy37 => (intro w; go_simp; (try with_reducible rfl))
                          (try simp only [Act.put, List.getElem_toArray, List.getElem_cons_succ, List.getElem_cons_zero, List.setIfInBounds_toArray, List.set_cons_succ, List.set_cons_zero])
                          refine any_take (i := 40) (v := ?v38) rfl (by kernel_rfl) (by kernel_rfl) (by kernel_rfl) (Or.inl ⟨by kernel_rfl, ?hy38⟩) ?rest38
                          case hy38 => (intro w; go_simp; (try with_reducible rfl))
                          (try simp only [Act.put, List.getElem_toArray, List.getElem_cons_succ, List.getElem_cons_zero, List.setIfInBounds_toArray, List.set_cons_succ, List.set_cons_zero])
                          refine any_take (i := 41) (v := ?v39) rfl (by kernel_rfl) (by kernel_rfl) (by kernel_rfl) (Or.inl ⟨by kernel_rfl, ?hy39⟩) ?rest39
                          case hy39 => (intro w; go_simp; (try with_reducible rfl))
                          (try simp only [Act.put, List.getElem_toArray, List.getElem_cons_succ, List.getElem_cons_zero, List.setIfInBounds_toArray, List.set_cons_succ, List.set_cons_zero])
                          refine wpAny_ready (rs := [42]) (by kernel_rfl) (by simp) ?_
                          refine AllReady.cons rfl (fun K hK => ?_) AllReady.nil
                          go_simp
                          refine hK _ _ ?_; clear hK K; (try simp only [Act.put, List.getElem_toArray, List.getElem_cons_succ, List.getElem_cons_zero, List.setIfInBounds_toArray, List.set_cons_succ, List.set_cons_zero])
                          have hrow := Lib.hid (pf_oneR y3.w)
                          generalize hz : World.alloc y3.w _ = Y4 at hrow ⊢
                          haveI : UpI y3.w Y4 := ⟨hz ▸ (Up.refl y3.w).alloc _⟩
                          clear hz
                          haveI : UpI v4.w Y4 := ⟨(upI : Up v4.w y3.w).trans (upI : Up y3.w Y4)⟩
                          haveI : UpI w Y4 := ⟨(upI : Up w y3.w).trans (upI : Up y3.w Y4)⟩
                          obtain ⟨S43, hS43⟩ : ∃ S, sb.extract 0 p ++ sb.extract (p + 1) sb.size = S := ⟨_, rfl⟩
                          (try rw [hS43])
                          refine wpAny_ready (rs := [43]) (by kernel_rfl) (by simp) ?_
                          refine AllReady.cons rfl (fun K hK => ?_) AllReady.nil
                          refine stepG_call (by kernel_rfl) 27 _ _ rfl #[.string S43, .slice (some ⟨y3.w.heap.size, 0, none⟩) 1 1] (by kernel_rfl) (fun w => by kernel_rfl) (.bool true) (texts_str S43 [(1, 31)] (.slice (some ⟨y3.w.heap.size, 0, none⟩) 1 1) Y4 (g.up (upI : Up w Y4)) hrow.out pb_one) ?_
                          intro y5
                          refine hK _ _ ?_; clear hK K; (try simp only [Act.put, List.getElem_toArray, List.getElem_cons_succ, List.getElem_cons_zero, List.setIfInBounds_toArray, List.set_cons_succ, List.set_cons_zero])
                          haveI : UpI v4.w y5.w := ⟨(upI : Up v4.w Y4).trans y5.up⟩
                          haveI : UpI w y5.w := ⟨(upI : Up w Y4).trans y5.up⟩
                          refine any_take (i := 44) (v := ?v40) rfl (by kernel_rfl) (by kernel_rfl) (by kernel_rfl) (Or.inl ⟨by kernel_rfl, ?hy40⟩) ?rest40
                          case hy40 => (intro w; go_simp; (try with_reducible rfl))
                          (try simp only [Act.put, List.getElem_toArray, List.getElem_cons_succ, List.getElem_cons_zero, List.setIfInBounds_toArray, List.set_cons_succ, List.set_cons_zero])
                          refine any_take (i := 45) (v := ?v41) rfl (by kernel_rfl) (by kernel_rfl) (by kernel_rfl) (Or.inl ⟨by kernel_rfl, ?hy41⟩) ?rest41
                          case hy41 => (intro w; go_simp; (try with_reducible rfl))
                          (try simp only [Act.put, List.getElem_toArray, List.getElem_cons_succ, List.getElem_cons_zero, List.setIfInBounds_toArray, List.set_cons_succ, List.set_cons_zero])
                          refine any_take (i := 46) (v := ?v42) rfl (by kernel_rfl) (by kernel_rfl) (by kernel_rfl) (Or.inl ⟨by kernel_rfl, ?hy42⟩) ?rest42
                          case hy42 => (intro w; go_simp; (try with_reducible rfl))
                          (try simp only [Act.put, List.getElem_toArray, List.getElem_cons_succ, List.getElem_cons_zero, List.setIfInBounds_toArray, List.set_cons_succ, List.set_cons_zero])
                          refine any_take (i := 47) (v := ?v43) rfl (by kernel_rfl) (by kernel_rfl) (by kernel_rfl) (Or.inl ⟨by kernel_rfl, ?hy43⟩) ?rest43
                          case hy43 => (intro w; go_simp; (try with_reducible rfl))
                          (try simp only [Act.put, List.getElem_toArray, List.getElem_cons_succ, List.getElem_cons_zero, List.setIfInBounds_toArray, List.set_cons_succ, List.set_cons_zero])
                          refine wpAny_done (by kernel_rfl) ?_ _
                          refine ⟨rfl, ?_⟩
                          go_wp2_with fail
                          go_meet
                          exact ⟨rfl, inferInstance⟩
                        · have hpN' : decide ((p : Int) < (sb.size : Int)) = false := decide_eq_false (by omega)
                          refine wp_region_turn (by kernel_rfl) ?_
                          generalize hy0 : World.drew v4.w = Y0
                          haveI : UpI v4.w Y0 := ⟨hy0 ▸ (Up.refl v4.w).drew⟩
                          haveI : UpI w Y0 := ⟨(upI : Up w v4.w).trans (upI : Up v4.w Y0)⟩
                          clear hy0
                          refine any_take (i := 0) (v := ?v44) rfl (by kernel_rfl) (by kernel_rfl) (by kernel_rfl) (Or.inl ⟨by kernel_rfl, ?hy44⟩) ?rest44
                          case hy44 => (intro w; go_simp; (try with_reducible rfl))
                          (try simp only [Act.put, List.getElem_toArray, List.getElem_cons_succ, List.getElem_cons_zero, List.setIfInBounds_toArray, List.set_cons_succ, List.set_cons_zero])
                          refine any_take (i := 1) (v := ?v45) rfl (by kernel_rfl) (by kernel_rfl) (by kernel_rfl) (Or.inl ⟨by kernel_rfl, ?hy45⟩) ?rest45
                          case hy45 => (intro w; go_simp; (try with_reducible rfl))
                          (try simp only [Act.put, List.getElem_toArray, List.getElem_cons_succ, List.getElem_cons_zero, List.setIfInBounds_toArray, List.set_cons_succ, List.set_cons_zero])
                          refine any_take (i := 2) (v := ?v46) rfl (by kernel_rfl) (by kernel_rfl) (by kernel_rfl) (Or.inl ⟨by kernel_rfl, ?hy46⟩) ?rest46
                          case hy46 => (intro w; go_simp; (try with_reducible rfl))
                          (try simp only [Act.put, List.getElem_toArray, List.getElem_cons_succ, List.getElem_cons_zero, List.setIfInBounds_toArray, List.set_cons_succ, List.set_cons_zero])
                          refine any_take (i := 3) (v := ?v47) rfl (by kernel_rfl) (by kernel_rfl) (by kernel_rfl) (Or.inl ⟨by kernel_rfl, ?hy47⟩) ?rest47
                          case hy47 => (intro w; go_simp; (try with_reducible rfl))
                          (try simp only [Act.put, List.getElem_toArray, List.getElem_cons_succ, List.getElem_cons_zero, List.setIfInBounds_toArray, List.set_cons_succ, List.set_cons_zero])
                          refine any_take (i := 4) (v := ?v48) rfl (by kernel_rfl) (by kernel_rfl) (by kernel_rfl) (Or.inl ⟨by kernel_rfl, ?hy48⟩) ?rest48
                          case hy48 => (intro w; go_simp; (try with_reducible rfl))
                          (try simp only [Act.put, List.getElem_toArray, List.getElem_cons_succ, List.getElem_cons_zero, List.setIfInBounds_toArray, List.set_cons_succ, List.set_cons_zero])
                          refine any_take (i := 5) (v := ?v49) rfl (by kernel_rfl) (by kernel_rfl) (by kernel_rfl) (Or.inl ⟨by kernel_rfl, ?hy49⟩) ?rest49
                          case hy49 => (intro w; go_simp; (try with_reducible rfl))
                          (try simp only [Act.put, List.getElem_toArray, List.getElem_cons_succ, List.getElem_cons_zero, List.setIfInBounds_toArray, List.set_cons_succ, List.set_cons_zero])
                          refine any_take (i := 6) (v := ?v50) rfl (by kernel_rfl) (by kernel_rfl) (by kernel_rfl) (Or.inl ⟨by kernel_rfl, ?hy50⟩) ?rest50
                          case hy50 => (intro w; go_simp; (try with_reducible rfl))
                          (try simp only [Act.put, List.getElem_toArray, List.getElem_cons_succ, List.getElem_cons_zero, List.setIfInBounds_toArray, List.set_cons_succ, List.set_cons_zero])
                          refine any_take (i := 7) (v := ?v51) rfl (by kernel_rfl) (by kernel_rfl) (by kernel_rfl) (Or.inl ⟨by kernel_rfl, ?hy51⟩) ?rest51
                          case hy51 => (intro w; go_simp; (try with_reducible rfl))
                          (try simp only [Act.put, List.getElem_toArray, List.getElem_cons_succ, List.getElem_cons_zero, List.setIfInBounds_toArray, List.set_cons_succ, List.set_cons_zero])
                          refine any_take (i := 8) (v := ?v52) rfl (by kernel_rfl) (by kernel_rfl) (by kernel_rfl) (Or.inl ⟨by kernel_rfl, ?hy52⟩) ?rest52
                          case hy52 => (intro w; go_simp; (try with_reducible rfl))
                          (try simp only [Act.put, List.getElem_toArray, List.getElem_cons_succ, List.getElem_cons_zero, List.setIfInBounds_toArray, List.set_cons_succ, List.set_cons_zero])
                          obtain ⟨S9, hS9⟩ : ∃ S, sb.extract 0 p ++ ch ++ sb.extract p sb.size = S := ⟨_, rfl⟩
                          (try rw [hS9])
                          refine wpAny_ready (rs := [9]) (by kernel_rfl) (by simp) ?_
                          refine AllReady.cons rfl (fun K hK => ?_) AllReady.nil
                          refine stepG_call (by kernel_rfl) 27 _ _ rfl #[.string S9, .slice none 0 0] (by kernel_rfl) (fun w => by kernel_rfl) (.bool true) (texts_str S9 [] (.slice none 0 0) Y0 (g.up (upI : Up w Y0)) (RowOf.nil _) pb_nil) ?_
                          intro y1
                          refine hK _ _ ?_; clear hK K; (try simp only [Act.put, List.getElem_toArray, List.getElem_cons_succ, List.getElem_cons_zero, List.setIfInBounds_toArray, List.set_cons_succ, List.set_cons_zero])
                          haveI : UpI v4.w y1.w := ⟨(upI : Up v4.w Y0).trans y1.up⟩
                          haveI : UpI w y1.w := ⟨(upI : Up w Y0).trans y1.up⟩
                          refine any_take (i := 10) (v := ?v53) rfl (by kernel_rfl) (by kernel_rfl) (by kernel_rfl) (Or.inl ⟨by kernel_rfl, ?hy53⟩) ?rest53
                          case hy53 => (intro w; go_simp; (try with_reducible rfl))
                          (try simp only [Act.put, List.getElem_toArray, List.getElem_cons_succ, List.getElem_cons_zero, List.setIfInBounds_toArray, List.set_cons_succ, List.set_cons_zero])
                          refine any_take (i := 11) (v := ?v54) rfl (by kernel_rfl) (by kernel_rfl) (by kernel_rfl) (Or.inl ⟨by kernel_rfl, ?hy54⟩) ?rest54
                          case hy54 => (intro w; go_simp; (try with_reducible rfl))
                          (try simp only [Act.put, List.getElem_toArray, List.getElem_cons_succ, List.getElem_cons_zero, List.setIfInBounds_toArray, List.set_cons_succ, List.set_cons_zero])
                          refine any_take (i := 12) (v := ?v55) rfl (by kernel_rfl) (by kernel_rfl) (by kernel_rfl) (Or.inl ⟨by kernel_rfl, ?hy55⟩) ?rest55
                          case hy55 => (intro w; go_simp; (try with_reducible rfl))
                          (try simp only [Act.put, List.getElem_toArray, List.getElem_cons_succ, List.getElem_cons_zero, List.setIfInBounds_toArray, List.set_cons_succ, List.set_cons_zero])
                          refine any_take (i := 13) (v := ?v56) rfl (by kernel_rfl) (by kernel_rfl) (by kernel_rfl) (Or.inl ⟨by kernel_rfl, ?hy56⟩) ?rest56
                          case hy56 => (intro w; go_simp; (try with_reducible rfl))
                          (try simp only [Act.put, List.getElem_toArray, List.getElem_cons_succ, List.getElem_cons_zero, List.setIfInBounds_toArray, List.set_cons_succ, List.set_cons_zero])
                          refine any_take (i := 14) (v := ?v57) rfl (by kernel_rfl) (by kernel_rfl) (by kernel_rfl) (Or.inl ⟨by kernel_rfl, ?hy57⟩) ?rest57
                          case hy57 => (intro w; go_simp; (try with_reducible rfl))
                          (try simp only [Act.put, List.getElem_toArray, List.getElem_cons_succ, List.getElem_cons_zero, List.setIfInBounds_toArray, List.set_cons_succ, List.set_cons_zero])
                          refine any_take (i := 15) (v := ?v58) rfl (by kernel_rfl) (by kernel_rfl) (by kernel_rfl) (Or.inl ⟨by kernel_rfl, ?hy58⟩) ?rest58
                          case hy58 => (intro w; go_simp; (try with_reducible rfl))
                          (try simp only [Act.put, List.getElem_toArray, List.getElem_cons_succ, List.getElem_cons_zero, List.setIfInBounds_toArray, List.set_cons_succ, List.set_cons_zero])
                          refine any_take (i := 16) (v := ?v59) rfl (by kernel_rfl) (by kernel_rfl) (by kernel_rfl) (Or.inl ⟨by kernel_rfl, ?hy59⟩) ?rest59
                          case hy59 => (intro w; go_simp; (try with_reducible rfl))
                          (try simp only [Act.put, List.getElem_toArray, List.getElem_cons_succ, List.getElem_cons_zero, List.setIfInBounds_toArray, List.set_cons_succ, List.set_cons_zero])
                          refine any_take (i := 17) (v := undef) rfl (by kernel_rfl) (by kernel_rfl) (by kernel_rfl) (Or.inr ⟨by kernel_rfl, rfl⟩) ?_
                          (try simp only [Act.put, List.getElem_toArray, List.getElem_cons_succ, List.getElem_cons_zero, List.setIfInBounds_toArray, List.set_cons_succ, List.set_cons_zero])
                          refine any_take (i := 18) (v := undef) rfl (by kernel_rfl) (by kernel_rfl) (by kernel_rfl) (Or.inr ⟨by kernel_rfl, rfl⟩) ?_
                          (try simp only [Act.put, List.getElem_toArray, List.getElem_cons_succ, List.getElem_cons_zero, List.setIfInBounds_toArray, List.set_cons_succ, List.set_cons_zero])
                          refine any_take (i := 19) (v := undef) rfl (by kernel_rfl) (by kernel_rfl) (by kernel_rfl) (Or.inr ⟨by kernel_rfl, rfl⟩) ?_
                          (try simp only [Act.put, List.getElem_toArray, List.getElem_cons_succ, List.getElem_cons_zero, List.setIfInBounds_toArray, List.set_cons_succ, List.set_cons_zero])
                          refine any_take (i := 20) (v := undef) rfl (by kernel_rfl) (by kernel_rfl) (by kernel_rfl) (Or.inr ⟨by kernel_rfl, rfl⟩) ?_
                          (try simp only [Act.put, List.getElem_toArray, List.getElem_cons_succ, List.getElem_cons_zero, List.setIfInBounds_toArray, List.set_cons_succ, List.set_cons_zero])
                          refine any_take (i := 21) (v := undef) rfl (by kernel_rfl) (by kernel_rfl) (by kernel_rfl) (Or.inr ⟨by kernel_rfl, rfl⟩) ?_
                          (try simp only [Act.put, List.getElem_toArray, List.getElem_cons_succ, List.getElem_cons_zero, List.setIfInBounds_toArray, List.set_cons_succ, List.set_cons_zero])
                          refine any_take (i := 22) (v := undef) rfl (by kernel_rfl) (by kernel_rfl) (by kernel_rfl) (Or.inr ⟨by kernel_rfl, rfl⟩) ?_
                          (try simp only [Act.put, List.getElem_toArray, List.getElem_cons_succ, List.getElem_cons_zero, List.setIfInBounds_toArray, List.set_cons_succ, List.set_cons_zero])
                          refine any_take (i := 23) (v := undef) rfl (by kernel_rfl) (by kernel_rfl) (by kernel_rfl) (Or.inr ⟨by kernel_rfl, rfl⟩) ?_
                          (try simp only [Act.put, List.getElem_toArray, List.getElem_cons_succ, List.getElem_cons_zero, List.setIfInBounds_toArray, List.set_cons_succ, List.set_cons_zero])
                          refine any_take (i := 24) (v := undef) rfl (by kernel_rfl) (by kernel_rfl) (by kernel_rfl) (Or.inr ⟨by kernel_rfl, rfl⟩) ?_
                          (try simp only [Act.put, List.getElem_toArray, List.getElem_cons_succ, List.getElem_cons_zero, List.setIfInBounds_toArray, List.set_cons_succ, List.set_cons_zero])
                          refine any_take (i := 25) (v := undef) rfl (by kernel_rfl) (by kernel_rfl) (by kernel_rfl) (Or.inr ⟨by kernel_rfl, rfl⟩) ?_
                          (try simp only [Act.put, List.getElem_toArray, List.getElem_cons_succ, List.getElem_cons_zero, List.setIfInBounds_toArray, List.set_cons_succ, List.set_cons_zero])
                          refine any_take (i := 26) (v := undef) rfl (by kernel_rfl) (by kernel_rfl) (by kernel_rfl) (Or.inr ⟨by kernel_rfl, rfl⟩) ?_
                          (try simp only [Act.put, List.getElem_toArray, List.getElem_cons_succ, List.getElem_cons_zero, List.setIfInBounds_toArray, List.set_cons_succ, List.set_cons_zero])
                          refine any_take (i := 27) (v := undef) rfl (by kernel_rfl) (by kernel_rfl) (by kernel_rfl) (Or.inr ⟨by kernel_rfl, rfl⟩) ?_
                          (try simp only [Act.put, List.getElem_toArray, List.getElem_cons_succ, List.getElem_cons_zero, List.setIfInBounds_toArray, List.set_cons_succ, List.set_cons_zero])
                          refine any_take (i := 28) (v := undef) rfl (by kernel_rfl) (by kernel_rfl) (by kernel_rfl) (Or.inr ⟨by kernel_rfl, rfl⟩) ?_
                          (try simp only [Act.put, List.getElem_toArray, List.getElem_cons_succ, List.getElem_cons_zero, List.setIfInBounds_toArray, List.set_cons_succ, List.set_cons_zero])
                          refine any_take (i := 29) (v := undef) rfl (by kernel_rfl) (by kernel_rfl) (by kernel_rfl) (Or.inr ⟨by kernel_rfl, rfl⟩) ?_
                          (try simp only [Act.put, List.getElem_toArray, List.getElem_cons_succ, List.getElem_cons_zero, List.setIfInBounds_toArray, List.set_cons_succ, List.set_cons_zero])
                          refine any_take (i := 30) (v := undef) rfl (by kernel_rfl) (by kernel_rfl) (by kernel_rfl) (Or.inr ⟨by kernel_rfl, rfl⟩) ?_
                          (try simp only [Act.put, List.getElem_toArray, List.getElem_cons_succ, List.getElem_cons_zero, List.setIfInBounds_toArray, List.set_cons_succ, List.set_cons_zero])
                          refine any_take (i := 31) (v := undef) rfl (by kernel_rfl) (by kernel_rfl) (by kernel_rfl) (Or.inr ⟨by kernel_rfl, rfl⟩) ?_
                          (try simp only [Act.put, List.getElem_toArray, List.getElem_cons_succ, List.getElem_cons_zero, List.setIfInBounds_toArray, List.set_cons_succ, List.set_cons_zero])
                          refine any_take (i := 32) (v := undef) rfl (by kernel_rfl) (by kernel_rfl) (by kernel_rfl) (Or.inr ⟨by kernel_rfl, rfl⟩) ?_
                          (try simp only [Act.put, List.getElem_toArray, List.getElem_cons_succ, List.getElem_cons_zero, List.setIfInBounds_toArray, List.set_cons_succ, List.set_cons_zero])
                          refine any_take (i := 33) (v := undef) rfl (by kernel_rfl) (by kernel_rfl) (by kernel_rfl) (Or.inr ⟨by kernel_rfl, rfl⟩) ?_
                          (try simp only [Act.put, List.getElem_toArray, List.getElem_cons_succ, List.getElem_cons_zero, List.setIfInBounds_toArray, List.set_cons_succ, List.set_cons_zero])
                          refine any_take (i := 34) (v := undef) rfl (by kernel_rfl) (by kernel_rfl) (by kernel_rfl) (Or.inr ⟨by kernel_rfl, rfl⟩) ?_
                          (try simp only [Act.put, List.getElem_toArray, List.getElem_cons_succ, List.getElem_cons_zero, List.setIfInBounds_toArray, List.set_cons_succ, List.set_cons_zero])
                          refine any_take (i := 35) (v := undef) rfl (by kernel_rfl) (by kernel_rfl) (by kernel_rfl) (Or.inr ⟨by kernel_rfl, rfl⟩) ?_
                          (try simp only [Act.put, List.getElem_toArray, List.getElem_cons_succ, List.getElem_cons_zero, List.setIfInBounds_toArray, List.set_cons_succ, List.set_cons_zero])
                          refine any_take (i := 36) (v := undef) rfl (by kernel_rfl) (by kernel_rfl) (by kernel_rfl) (Or.inr ⟨by kernel_rfl, rfl⟩) ?_
                          (try simp only [Act.put, List.getElem_toArray, List.getElem_cons_succ, List.getElem_cons_zero, List.setIfInBounds_toArray, List.set_cons_succ, List.set_cons_zero])
                          refine any_take (i := 37) (v := undef) rfl (by kernel_rfl) (by kernel_rfl) (by kernel_rfl) (Or.inr ⟨by kernel_rfl, rfl⟩) ?_
                          (try simp only [Act.put, List.getElem_toArray, List.getElem_cons_succ, List.getElem_cons_zero, List.setIfInBounds_toArray, List.set_cons_succ, List.set_cons_zero])
                          refine any_take (i := 38) (v := undef) rfl (by kernel_rfl) (by kernel_rfl) (by kernel_rfl) (Or.inr ⟨by kernel_rfl, rfl⟩) ?_
                          (try simp only [Act.put, List.getElem_toArray, List.getElem_cons_succ, List.getElem_cons_zero, List.setIfInBounds_toArray, List.set_cons_succ, List.set_cons_zero])
                          refine any_take (i := 39) (v := undef) rfl (by kernel_rfl) (by kernel_rfl) (by kernel_rfl) (Or.inr ⟨by kernel_rfl, rfl⟩) ?_
                          (try simp only [Act.put, List.getElem_toArray, List.getElem_cons_succ, List.getElem_cons_zero, List.setIfInBounds_toArray, List.set_cons_succ, List.set_cons_zero])
                          refine any_take (i := 40) (v := undef) rfl (by kernel_rfl) (by kernel_rfl) (by kernel_rfl) (Or.inr ⟨by kernel_rfl, rfl⟩) ?_
                          (try simp only [Act.put, List.getElem_toArray, List.getElem_cons_succ, List.getElem_cons_zero, List.setIfInBounds_toArray, List.set_cons_succ, List.set_cons_zero])
                          refine any_take (i := 41) (v := undef) rfl (by kernel_rfl) (by kernel_rfl) (by kernel_rfl) (Or.inr ⟨by kernel_rfl, rfl⟩) ?_
                          (try simp only [Act.put, List.getElem_toArray, List.getElem_cons_succ, List.getElem_cons_zero, List.setIfInBounds_toArray, List.set_cons_succ, List.set_cons_zero])
                          refine any_take (i := 42) (v := undef) rfl (by kernel_rfl) (by kernel_rfl) (by kernel_rfl) (Or.inr ⟨by kernel_rfl, rfl⟩) ?_
                          (try simp only [Act.put, List.getElem_toArray, List.getElem_cons_succ, List.getElem_cons_zero, List.setIfInBounds_toArray, List.set_cons_succ, List.set_cons_zero])
                          refine any_take (i := 43) (v := undef) rfl (by kernel_rfl) (by kernel_rfl) (by kernel_rfl) (Or.inr ⟨by kernel_rfl, rfl⟩) ?_
                          (try simp only [Act.put, List.getElem_toArray, List.getElem_cons_succ, List.getElem_cons_zero, List.setIfInBounds_toArray, List.set_cons_succ, List.set_cons_zero])
                          refine any_take (i := 44) (v := undef) rfl (by kernel_rfl) (by kernel_rfl) (by kernel_rfl) (Or.inr ⟨by kernel_rfl, rfl⟩) ?_
                          (try simp only [Act.put, List.getElem_toArray, List.getElem_cons_succ, List.getElem_cons_zero, List.setIfInBounds_toArray, List.set_cons_succ, List.set_cons_zero])
                          refine any_take (i := 45) (v := undef) rfl (by kernel_rfl) (by kernel_rfl) (by kernel_rfl) (Or.inr ⟨by kernel_rfl, rfl⟩) ?_
                          (try simp only [Act.put, List.getElem_toArray, List.getElem_cons_succ, List.getElem_cons_zero, List.setIfInBounds_toArray, List.set_cons_succ, List.set_cons_zero])
                          refine any_take (i := 46) (v := ?v60) rfl (by kernel_rfl) (by kernel_rfl) (by kernel_rfl) (Or.inl ⟨by kernel_rfl, ?hy60⟩) ?rest60
                          case hy60 => (intro w; go_simp; (try with_reducible rfl))
                          (try simp only [Act.put, List.getElem_toArray, List.getElem_cons_succ, List.getElem_cons_zero, List.setIfInBounds_toArray, List.set_cons_succ, List.set_cons_zero])
                          refine any_take (i := 47) (v := ?v61) rfl (by kernel_rfl) (by kernel_rfl) (by kernel_rfl) (Or.inl ⟨by kernel_rfl, ?hy61⟩) ?rest61
                          case hy61 => (intro w; go_simp; (try with_reducible rfl))
                          (try simp only [Act.put, List.getElem_toArray, List.getElem_cons_succ, List.getElem_cons_zero, List.setIfInBounds_toArray, List.set_cons_succ, List.set_cons_zero])
                          refine wpAny_done (by kernel_rfl) ?_ _
                          refine ⟨rfl, ?_⟩
                          go_wp2_with fail
                          go_meet
                          exact ⟨rfl, inferInstance⟩
                      case rest =>
                        obtain ⟨rfl, uc⟩ := hcut
                        haveI := uc
                        haveI : UpI W4 wc := ⟨v4.up.trans uc.up⟩
                        go_wp2_with fail
                        go_roundw
                        case rel => exact ⟨j + 1, by omega, by go_num, mkI⟩
                        case measure => simp [intOf] <;> omega
                    · have hj' : ¬ (j : Int) < 8 := by omega
                      haveI : UpI Z3 v4.w := ⟨u4.up.trans v4.up⟩
                      clear hj hjl h4
                      go_wp2_with fail
                      go_roundw
                      case rel => exact ⟨p + 1, by omega, by go_num, mkI⟩
                      case measure => simp [intOf] <;> omega
                · have hp2 : ¬ (p : Int) < (sb.size : Int) + 1 := by omega
                  go_wp2_with fail
                  go_roundw
                  case rel => exact ⟨q + 1, by omega, by go_num, mkI⟩
                  case measure => simp [intOf] <;> omega
            · have hge : ¬ (q : Int) < 6 := by omega
              clear hq hql h3
              go_upto_region 34 with fail
              clear hge
              refine wp_letterS (fun W5 => UpI w W5) ?hst5 ?_
              case hst5 => exact ⟨(upI : Up w Z3).trans x3.up⟩
              intro W5 u5
              haveI := u5
              obtain ⟨i0, hi, hy0, hy1, hy2⟩ := info_parts infoSpan
              obtain ⟨D, hD⟩ : ∃ D, W5.heap.size = D := ⟨_, rfl⟩
              obtain ⟨mc, Hmc, hmk⟩ : ∃ mc : Array Value, Hid (∀ W : World, (W.alloc (.cells mc 39)).ownsRow W.heap.size 39 2 (.slice (some ⟨W.heap.size, 0, none⟩) 4097 4097) 4097 ((mixM 0).flatMap spCells)) ∧ ∀ W : World, (Instr.makeSlice 25 (.int .i64 4097) (.int .i64 4097)).run Tryz.prog W = .ok (.slice (some ⟨W.heap.size, 0, none⟩) 4097 4097) (W.alloc (.cells mc 39)) := by
                refine ⟨madeCells #[.int .u32 0, .int .u32 0] (4097 * 2), Lib.hid (fun W => zeros_row W _), fun W => ?_⟩
                have := run_makeSlice (P := Tryz.prog) (w := W) 25 39 i0 _ Tryz.underlying25 hi hy0 .i64 .i64 4097 4097 (by decide) (by decide) (by rw [hy1]; decide) (by rw [hy2]; decide) (by decide)
                rw [show (4097 : Int).toNat = 4097 from rfl, hy1] at this
                exact this
              clear hi hy0 hy1 hy2
              go_upto_region 35 with fail
              clear hmk
              refine wp_letterS (fun Z5 => UpI W5 Z5 ∧ Hid (Z5.ownsRow D 39 2 (.slice (some ⟨D, 0, none⟩) 4097 4097) 4097 ((mixM 0).flatMap spCells))) ?hst6 ?_
              case hst6 => exact ⟨inferInstance, Lib.hid (hD ▸ Hmc.out W5)⟩
              (try rw [hD])
              rintro Z5 ⟨u6, R6⟩
              haveI := u6
              haveI : GeSize W5 D := ⟨Nat.le_of_eq hD⟩
              haveI : GeSize w D := ⟨Nat.le_trans (upI : Up w W5).size (Nat.le_of_eq hD)⟩
              clear Hmc hD
              go_wp2_with fail
              go_loopw [197] (fun i wr => ∃ k : Nat, k ≤ 4097 ∧ i = .int .i64 (k : Int) ∧ UpI W5 wr ∧ Hid (wr.ownsRow D 39 2 (.slice (some ⟨D, 0, none⟩) 4097 4097) 4097 ((mixM k).flatMap spCells))) (fun i _ => 4097 - (intOf i).toNat)
              case atStart => exact ⟨0, by omega, rfl, inferInstance, R6⟩
              case round =>
                obtain ⟨k, hk, rfl, u7, R7⟩ := hrel
                haveI := u7
                by_cases hkl : k < 4097
                · have hkl' : (k : Int) < 4097 := by omega
                  have k0 : (0 : Int) ≤ (k : Int) := by omega
                  haveI : In64 (2 * (k : Int)) := ⟨by omega⟩
                  haveI : In64 ((k : Int) + 1) := ⟨by omega⟩
                  haveI : InU32 (2 * (k : Int)) := ⟨by omega⟩
                  have c0 : wr.cell? ⟨D, k * 2, none⟩ = some (.int .u32 0) := by rw [World.ownsRow.cellAt R7.out (k * 2) (by omega)]; exact flat_at (cells := spCells) (k := 2) spCells_length _ k 0 (0, 0) _ (mixM_get k hkl) rfl
                  have c1 : wr.cell? ⟨D, k * 2 + 1, none⟩ = some (.int .u32 0) := by rw [World.ownsRow.cellAt R7.out (k * 2 + 1) (by omega)]; exact flat_at (cells := spCells) (k := 2) spCells_length _ k 1 (0, 0) _ (mixM_get k hkl) rfl
                  have f0 := World.ownsRow.frozenAt R7.out (k * 2)
                  have f1 := World.ownsRow.frozenAt R7.out (k * 2 + 1)
                  haveI : LtSize D wr := ⟨cell_lt' c0⟩
                  have R8 := Lib.hid (sp_store1 (2 * (k : Int)) (sp_store0 (2 * (k : Int)) R7.out (mixM_get k hkl)) (mixM_get1 k (2 * (k : Int), 0) hkl))
                  have e8 : ((mixM k).set k (2 * (k : Int), ((0 : Int), (0 : Int)).2)).set k ((2 * (k : Int), (0 : Int)).1, 2 * (k : Int)) = mixM (k + 1) := mixM_set k (2 * (k : Int), 0) hkl
                  rw [e8] at R8
                  clear e8
                  go_wp2_with fail
                  go_roundw
                  case rel => exact ⟨k + 1, by omega, by go_num, inferInstance, R8⟩
                  case measure => simp [intOf] <;> omega
                · have hge : ¬ (k : Int) < 4097 := by omega
                  have R7 := Lib.hid (show wr.ownsRow D 39 2 (.slice (some ⟨D, 0, none⟩) 4097 4097) 4097 ((manyL 4097).flatMap spCells) from mixM_full ▸ (show k = 4097 by omega) ▸ R7.out)
                  clear hkl hk
                  haveI : LtSize D wr := ⟨(owns_lt R7.out D rfl)⟩
                  haveI : UpI w wr := ⟨(upI : Up w W5).trans (upI : Up W5 wr)⟩
                  obtain ⟨rA, r4, r1⟩ := many_rows R7.out
                  have RA := Lib.hid rA; have R4 := Lib.hid r4; have R1 := Lib.hid r1
                  clear rA r4 r1 R7
                  go_upto_region 41 with (go_at_call 22; (with_reducible refine (many_ofC wr _ R4.out).mono ?_); rintro e w' ⟨p1, c1, rfl, RO, y1, rfl⟩)
                  haveI : UpI w y1.w := ⟨(upI : Up w wr).trans y1.up⟩
                  refine wp_region_turn (by kernel_rfl) ?_
                  generalize hy0 : World.drew y1.w = Y0
                  haveI : UpI y1.w Y0 := ⟨hy0 ▸ (Up.refl y1.w).drew⟩
                  haveI : UpI wr Y0 := ⟨y1.up.trans (upI : Up y1.w Y0)⟩
                  haveI : UpI w Y0 := ⟨(upI : Up w y1.w).trans (upI : Up y1.w Y0)⟩
                  clear hy0
                  refine any_take (i := 0) (v := ?w0) rfl (by kernel_rfl) (by kernel_rfl) (by kernel_rfl) (Or.inl ⟨by kernel_rfl, ?hz0⟩) ?rst0
                  case hz0 => (intro w; go_simp; (try with_reducible rfl))
                  (try simp only [Act.put, List.getElem_toArray, List.getElem_cons_succ, List.getElem_cons_zero, List.setIfInBounds_toArray, List.set_cons_succ, List.set_cons_zero])
                  refine any_take (i := 1) (v := ?w1) rfl (by kernel_rfl) (by kernel_rfl) (by kernel_rfl) (Or.inl ⟨by kernel_rfl, ?hz1⟩) ?rst1
                  case hz1 => (intro w; go_simp; (try with_reducible rfl))
                  (try simp only [Act.put, List.getElem_toArray, List.getElem_cons_succ, List.getElem_cons_zero, List.setIfInBounds_toArray, List.set_cons_succ, List.set_cons_zero])
                  refine any_take (i := 2) (v := ?w2) rfl (by kernel_rfl) (by kernel_rfl) (by kernel_rfl) (Or.inl ⟨by kernel_rfl, ?hz2⟩) ?rst2
                  case hz2 => (intro w; go_simp; (try with_reducible rfl))
                  (try simp only [Act.put, List.getElem_toArray, List.getElem_cons_succ, List.getElem_cons_zero, List.setIfInBounds_toArray, List.set_cons_succ, List.set_cons_zero])
                  refine any_take (i := 3) (v := ?w3) rfl (by kernel_rfl) (by kernel_rfl) (by kernel_rfl) (Or.inl ⟨by kernel_rfl, ?hz3⟩) ?rst3
                  case hz3 => (intro w; go_simp; (try with_reducible rfl))
                  (try simp only [Act.put, List.getElem_toArray, List.getElem_cons_succ, List.getElem_cons_zero, List.setIfInBounds_toArray, List.set_cons_succ, List.set_cons_zero])
                  refine wpAny_ready (rs := [4]) (by kernel_rfl) (by simp) ?_
                  refine AllReady.cons rfl (fun K hK => ?_) AllReady.nil
                  refine stepG_calls (by kernel_rfl) 13 _ _ rfl #[.slice (some ⟨D, 0, none⟩) 4096 4097, .slice (some ⟨D, 8192, none⟩) 1 1] (by kernel_rfl) (fun w => by kernel_rfl) (many_unionC Y0 _ _ (R4.out.up (upI : Up wr Y0)) (R1.out.up (upI : Up wr Y0))) ?_
                  rintro e w1 ⟨p2, c2, rfl, RU, y2, rfl⟩
                  refine ⟨_, rfl, ?_⟩
                  refine hK _ _ ?_; clear hK K; (try simp only [Act.put, List.getElem_toArray, List.getElem_cons_succ, List.getElem_cons_zero, List.setIfInBounds_toArray, List.set_cons_succ, List.set_cons_zero])
                  refine any_take (i := 5) (v := ?w5) rfl (by kernel_rfl) (by kernel_rfl) (by kernel_rfl) (Or.inl ⟨by kernel_rfl, ?hz5⟩) ?rst5
                  case hz5 => (intro w; go_simp; (try with_reducible rfl))
                  (try simp only [Act.put, List.getElem_toArray, List.getElem_cons_succ, List.getElem_cons_zero, List.setIfInBounds_toArray, List.set_cons_succ, List.set_cons_zero])
                  refine any_take (i := 6) (v := ?w6) rfl (by kernel_rfl) (by kernel_rfl) (by kernel_rfl) (Or.inl ⟨by kernel_rfl, ?hz6⟩) ?rst6
                  case hz6 => (intro w; go_simp; (try with_reducible rfl))
                  (try simp only [Act.put, List.getElem_toArray, List.getElem_cons_succ, List.getElem_cons_zero, List.setIfInBounds_toArray, List.set_cons_succ, List.set_cons_zero])
                  refine any_take (i := 7) (v := ?w7) rfl (by kernel_rfl) (by kernel_rfl) (by kernel_rfl) (Or.inl ⟨by kernel_rfl, ?hz7⟩) ?rst7
                  case hz7 => (intro w; go_simp; (try with_reducible rfl))
                  (try simp only [Act.put, List.getElem_toArray, List.getElem_cons_succ, List.getElem_cons_zero, List.setIfInBounds_toArray, List.set_cons_succ, List.set_cons_zero])
                  refine any_take (i := 8) (v := ?w8) rfl (by kernel_rfl) (by kernel_rfl) (by kernel_rfl) (Or.inl ⟨by kernel_rfl, ?hz8⟩) ?rst8
                  case hz8 => (intro w; go_simp; (try with_reducible rfl))
                  (try simp only [Act.put, List.getElem_toArray, List.getElem_cons_succ, List.getElem_cons_zero, List.setIfInBounds_toArray, List.set_cons_succ, List.set_cons_zero])
                  refine any_take (i := 9) (v := ?w9) rfl (by kernel_rfl) (by kernel_rfl) (by kernel_rfl) (Or.inl ⟨by kernel_rfl, ?hz9⟩) ?rst9
                  case hz9 => (intro w; go_simp; (try with_reducible rfl))
                  (try simp only [Act.put, List.getElem_toArray, List.getElem_cons_succ, List.getElem_cons_zero, List.setIfInBounds_toArray, List.set_cons_succ, List.set_cons_zero])
                  refine wpAny_done (by kernel_rfl) ?_ _
                  refine ⟨rfl, ?_⟩
                  haveI : UpI w y2.w := ⟨(upI : Up w Y0).trans y2.up⟩
                  haveI : UpI wr y2.w := ⟨(upI : Up wr Y0).trans y2.up⟩
                  go_upto_region 42 with fail
                  obtain ⟨T, hT⟩ : ∃ T : ByteArray, (⟨(textS (manyL 4096)).toArray⟩ : ByteArray) = T := ⟨_, rfl⟩
                  have HT := Lib.hid hT
                  have nT : ¬ 9223372036854775807 < T.size + 5 := by have := many_size hT; omega
                  clear hT
                  go_upto_region 43 with (go_at_call 21; (with_reducible refine (many_textC y2.w (g.up upI) _ (R4.out.up upI) T HT.out).mono ?_); rintro e w' ⟨rfl, y3, rfl⟩)
                  haveI : UpI w y3.w := ⟨(upI : Up w y2.w).trans y3.up⟩
                  haveI : UpI wr y3.w := ⟨(upI : Up wr y2.w).trans y3.up⟩
                  go_upto_region 44 with (go_at_call 28; (with_reducible refine (many_readC y3.w (g.up upI) T HT.out).mono ?_); rintro e w' ⟨p3, c3, rfl, RR, y4, rfl⟩)
                  haveI : UpI w y4.w := ⟨(upI : Up w y3.w).trans y4.up⟩
                  haveI : UpI wr y4.w := ⟨(upI : Up wr y3.w).trans y4.up⟩
                  go_upto_region 45 with (go_at_call 28; (with_reducible refine (many_moreC y4.w (g.up upI) T HT.out).mono ?_); rintro e w' ⟨rfl, y5, rfl⟩)
                  haveI : UpI w y5.w := ⟨(upI : Up w y4.w).trans y5.up⟩
                  haveI : UpI wr y5.w := ⟨(upI : Up wr y4.w).trans y5.up⟩
                  obtain ⟨R, hR⟩ : ∃ R : ByteArray, (⟨(Lib.repeatL [49, 44] 5000).toArray⟩ : ByteArray) = R := ⟨_, rfl⟩
                  have HR := Lib.hid hR
                  have nR : ¬ 9223372036854775807 < R.size + 1 := by have := rep_size hR; omega
                  clear hR
                  go_upto_region 46 with (first
                    | (go_at_call 33; (with_reducible refine (rep_call y5.w R HR.out).mono ?_); rintro e w' ⟨rfl, y6, rfl⟩)
                    | (go_at_call 28; (with_reducible refine (many_repC y6.w (g.up ((upI : Up w y5.w).trans y6.up)) R HR.out).mono ?_); rintro e w' ⟨rfl, y7, rfl⟩))
                  haveI : UpI w y7.w := ⟨((upI : Up w y5.w).trans y6.up).trans y7.up⟩
                  haveI : UpI wr y7.w := ⟨((upI : Up wr y5.w).trans y6.up).trans y7.up⟩
                  obtain ⟨i1, hi, hy0, hy1, hy2⟩ := info_parts infoPfx
                  obtain ⟨mp, Hmp, hmk⟩ : ∃ mp : Array Value, Hid (∀ W : World, PfRow (W.alloc (.cells mp 62)) (.slice (some ⟨W.heap.size, 0, none⟩) 4097 4097) (List.replicate 4097 ((0 : Int), (0 : Int)))) ∧ ∀ W : World, (Instr.makeSlice 42 (.int .i64 4097) (.int .i64 4097)).run Tryz.prog W = .ok (.slice (some ⟨W.heap.size, 0, none⟩) 4097 4097) (W.alloc (.cells mp 62)) := by
                    refine ⟨madeCells #[.int .u32 0, .int .u8 0] (4097 * 2), Lib.hid (fun W => pz_row W 4097), fun W => ?_⟩
                    have := run_makeSlice (P := Tryz.prog) (w := W) 42 62 i1 _ Tryz.underlying42 hi hy0 .i64 .i64 4097 4097 (by decide) (by decide) (by rw [hy1]; decide) (by rw [hy2]; decide) (by decide)
                    rw [show (4097 : Int).toNat = 4097 from rfl, hy1] at this
                    exact this
                  clear hi hy0 hy1 hy2
                  have pn : ∀ x ∈ ([] : List Sp), SpB x := fun x h => (List.not_mem_nil h).elim
                  have p21 : ∀ x ∈ [((2 : Int), (1 : Int))], SpB x := fun x h => by rw [List.mem_singleton.1 h]; constructor <;> decide
                  have t1 := Lib.hid (fun (W : World) (u : UpI wr W) => two_any (manyL 4097) [] (.slice (some ⟨D, 0, none⟩) 4097 4097) (.slice none 0 0) W (RA.out.up u.up) (RowOf.nil _) (manyL_b 4097 (by decide)) pn)
                  have t2 := Lib.hid (fun (W : World) (u : UpI wr W) => two_any [] (manyL 4097) (.slice none 0 0) (.slice (some ⟨D, 0, none⟩) 4097 4097) W (RowOf.nil _) (RA.out.up u.up) pn (manyL_b 4097 (by decide)))
                  have t3 := Lib.hid (fun (W : World) (u : UpI wr W) => two_any [((2 : Int), (1 : Int))] (manyL 4097) (.slice (some ⟨W.heap.size, 0, none⟩) 1 1) (.slice (some ⟨D, 0, none⟩) 4097 4097) (W.alloc (.cells #[.int .u32 2, .int .u32 1] 39)) (one_rowA W (2, 1) _ rfl) (RA.out.up (u.up.alloc _)) p21 (manyL_b 4097 (by decide)))
                  clear pn p21
                  go_wp2_with (first
                    | (go_at_call 32; (with_reducible refine (one_any (manyL 4097) 5 _ y7.w (g.up upI) (RA.out.up upI) (manyL_b 4097 (by decide)) (by decide) (by decide)).mono ?_); rintro e w' ⟨rfl, z1, rfl⟩)
                    | (go_at_call 18; (with_reducible refine (t1.out z1.w inferInstance).mono ?_); rintro e w' ⟨rfl, z2, rfl⟩)
                    | (go_at_call 18; (with_reducible refine (t2.out z2.w inferInstance).mono ?_); rintro e w' ⟨rfl, z3, rfl⟩)
                    | (go_at_call 18; (with_reducible refine (t3.out z3.w inferInstance).mono ?_); rintro e w' ⟨rfl, z4, rfl⟩)
                    | (go_at_call 27; refine (texts_str ⟨#[]⟩ (List.replicate 4097 ((0 : Int), (0 : Int))) _ _ (g.up upI) (Hmp.out z4.w) (pz_b 4097)).mono ?_; rintro e w' ⟨rfl, z5, rfl⟩)
                    | (go_at_call 26; (with_reducible refine (same_yes (manyL 4096) _ _ z5.w (RR.out.up upI) (R4.out.up upI) (by rw [manyL_len]; decide)).mono ?_); rintro e w' ⟨rfl, z6, rfl⟩)
                    | (go_at_call 11; (with_reducible refine (spawake_any _ (g.up upI)).mono ?_); rintro e w' ⟨rfl, z7, rfl⟩))
                  go_ret
                  exact ⟨rfl, mkI⟩
end Go.Proofs.YtgfkcbflnkpogaaGreatDoor
