/- The walk of AddrSmall (layer 3): a closed statement. -/
import Derived.Test.YtdiiicnjbgimmaaGreatDoorTexts
import Derived.Test.YtdiiicnjbgimmaaGreatDoorNumbers
import Derived.Test.YtdiiicnjbgimmaaGreatDoorAwake
import Derived.Test.YtdiiicnjbgimmaaGreatDoorRel
import Derived.Deep.DeepCutAuto
namespace Go.Ab
open Go.RowKit Go.Proofs.YtdiiicnjbgimmaaGreatDoor
theorem wp_letter {P : Program} {c : Code} {Q : Exit → Act → World → Prop} {a : Act} {W0 : World} (S : World → Prop) (hS : S W0) (h : ∀ W, S W → c.wp P Q a W) : c.wp P Q a W0 := h W0 hS
structure KAt (w : World) (p : Nat) : Prop where
  c0 : w.cell? ⟨p, 0, none⟩ = some (.int .u8 6)
  c1 : w.cell? ⟨p, 1, none⟩ = some (.int .u32 1)
  c2 : w.cell? ⟨p, 2, none⟩ = some (.int .u32 2)
  c3 : w.cell? ⟨p, 3, none⟩ = some (.int .u16 3)
  c4 : w.cell? ⟨p, 4, none⟩ = some (.int .u16 4)
theorem kb0 : KeyB 6 1 2 3 4 := ⟨by decide, by decide, by decide, by decide, by decide, by decide, by decide, by decide, by decide, by decide⟩
end Go.Ab
namespace Go.Proofs.YtdiiicnjbgimmaaGreatDoor
open Go.RowKit Go.Ab
theorem texts_str (s : ByteArray) (p q x e1 s1 d1 sp1 dp1 e2 s2 d2 sp2 dp2 : Int) (w : World) (g : Good w) (hl : s.size < 4294967281) (p0 : 0 ≤ p) (p1 : p < 65536) (q0 : 0 ≤ q) (q1 : q < 65536) (x0 : 0 ≤ x) (x1 : x < 65536) (k1 : KeyB e1 s1 d1 sp1 dp1) (k2 : KeyB e2 s2 d2 sp2 dp2) :
    Gives Tryz.prog 5 #[.string s, .agg #[.int .u16 p, .int .u16 q], .int .u16 x, .agg #[.int .u8 e1, .int .u32 s1, .int .u32 d1, .int .u16 sp1, .int .u16 dp1], .agg #[.int .u8 e2, .int .u32 s2, .int .u32 d2, .int .u16 sp2, .int .u16 dp2]] w (.bool true) := by
  have h := texts_any s.data.toList p q x e1 s1 d1 sp1 dp1 e2 s2 d2 sp2 dp2 w g (by simpa using hl) p0 p1 q0 q1 x0 x1 k1 k2
  simpa using h
theorem run_byte_cells3 (w : World) (b : Nat) (c0 c1 c2 : Int) (h0 : w.cell? ⟨b, 0, none⟩ = some (.int .u8 c0)) (h1 : w.cell? ⟨b, 1, none⟩ = some (.int .u8 c1)) (h2 : w.cell? ⟨b, 2, none⟩ = some (.int .u8 c2)) :
    ∃ s : ByteArray, (convert 30 9 (.slice (some ⟨b, 0, none⟩) 3 3)).run Tryz.prog w = .ok (.string s) w ∧ s.size = 3 := by
  refine ⟨[c0, c1, c2].foldl (fun r n => r.push (UInt8.ofNat n.toNat)) ByteArray.empty, ?_, rfl⟩
  · rw [run_convert_bytes_string _ _ _ _ _ _ _ Tryz.underlying30 Tryz.underlying5 Tryz.underlying9]
    have hl := run_loadCells_list (P := Tryz.prog) w ⟨b, 0, none⟩ ([c0, c1, c2].map (Value.int .u8)) (fun j v hj => by
      have hj' : j < 3 := by have := (List.getElem?_eq_some_iff.1 hj).1; simpa using this
      rcases (by omega : j = 0 ∨ j = 1 ∨ j = 2) with rfl | rfl | rfl
      all_goals (simp at hj; rw [← hj]; simp [Addr.add, h0, h1, h2]))
    exact run_bytesToString _ _ 3 3 [c0, c1, c2] hl
set_option maxHeartbeats 64000000 in
set_option maxRecDepth 100000 in
theorem asmall_any (w : World) (g : Good w) : Gives Tryz.prog 3 #[] w (.bool true) := by
  unfold Gives
  go_enter Tryz.func3, Tryz.ntmps3
  go_wp2_with fail
  refine wp_letter (fun W => UpI w W ∧ ∀ k : Nat, k < 11 → ∃ n : Int, W.cell? ⟨w.heap.size, k, none⟩ = some (.int .u32 n) ∧ 0 ≤ n ∧ n < 4294967296) ⟨inferInstance, fun k hk => by
      rcases (by omega : k = 0 ∨ k = 1 ∨ k = 2 ∨ k = 3 ∨ k = 4 ∨ k = 5 ∨ k = 6 ∨ k = 7 ∨ k = 8 ∨ k = 9 ∨ k = 10) with rfl | rfl | rfl | rfl | rfl | rfl | rfl | rfl | rfl | rfl | rfl
      · exact ⟨0, by simp [go_sem], by decide, by decide⟩
      · exact ⟨1, by simp [go_sem], by decide, by decide⟩
      · exact ⟨2, by simp [go_sem], by decide, by decide⟩
      · exact ⟨255, by simp [go_sem], by decide, by decide⟩
      · exact ⟨256, by simp [go_sem], by decide, by decide⟩
      · exact ⟨16777215, by simp [go_sem], by decide, by decide⟩
      · exact ⟨16777216, by simp [go_sem], by decide, by decide⟩
      · exact ⟨2147483647, by simp [go_sem], by decide, by decide⟩
      · exact ⟨2147483648, by simp [go_sem], by decide, by decide⟩
      · exact ⟨4294967294, by simp [go_sem], by decide, by decide⟩
      · exact ⟨4294967295, by simp [go_sem], by decide, by decide⟩⟩ ?_
  rintro W ⟨uW, hN⟩
  obtain ⟨A, hA⟩ : ∃ A, w.heap.size = A := ⟨_, rfl⟩
  rw [hA] at hN ⊢
  clear hA
  have gW := g.up uW.up
  go_loopw [28] (fun i wr => ∃ k : Nat, k ≤ 11 ∧ i = .int .i64 (k : Int) ∧ ∃ x : Ext W, wr = x.w) (fun i _ => 11 - (intOf i).toNat)
  case atStart => exact ⟨0, by omega, rfl, (Up.refl W).mk⟩
  case round =>
    obtain ⟨k, hk, rfl, x, rfl⟩ := hrel
    by_cases hlt : k < 11
    · have hlt' : (k : Int) < 11 := by omega
      have k0 : (0 : Int) ≤ (k : Int) := by omega
      obtain ⟨a, ca, a0, a1⟩ := hN k hlt
      haveI : LtSize A W := ⟨cell_lt' ca⟩
      go_wp2_with fail
      go_loopw [34] (fun i wr => ∃ m : Nat, m ≤ 11 ∧ i = .int .i64 (m : Int) ∧ ∃ x : Ext W, wr = x.w) (fun i _ => 11 - (intOf i).toNat)
      case atStart => exact ⟨0, by omega, rfl, ⟨x, rfl⟩⟩
      case round =>
        obtain ⟨m, hm, rfl, y, rfl⟩ := hrel
        by_cases hml : m < 11
        · have hml' : (m : Int) < 11 := by omega
          have m0 : (0 : Int) ≤ (m : Int) := by omega
          obtain ⟨b, cb, b0, b1⟩ := hN m hml
          go_wp2_with fail
          go_loopw [38] (fun i wr => ∃ j : Nat, j ≤ 36 ∧ i = .int .i64 (j : Int) ∧ ∃ x : Ext W, wr = x.w) (fun i _ => 36 - (intOf i).toNat)
          case atStart => exact ⟨0, by omega, rfl, ⟨y, rfl⟩⟩
          case round =>
            obtain ⟨j, hj, rfl, z, rfl⟩ := hrel
            by_cases hjl : j < 36
            · have hjl' : (j : Int) < 36 := by omega
              have j0 : (0 : Int) ≤ (j : Int) := by omega
              have e1 : (j : Int) % 256 = (j : Int) := by omega
              have e2 : (35 - (j : Int)) % 256 = 35 - (j : Int) := by omega
              have e3 : (255 - (j : Int)) % 256 = 255 - (j : Int) := by omega
              have h1 := fun w g => numbers_any a b a (j : Int) b (35 - (j : Int)) (j : Int) w g a0 a1 b0 b1 a0 a1 j0 (by omega) b0 b1 (by omega) (by omega) j0 (by omega)
              have h2 := fun w g => numbers_any b ((a + 1) % 4294967296) b (35 - (j : Int)) a (j : Int) (255 - (j : Int)) w g b0 b1 (by omega) (by omega) b0 b1 (by omega) (by omega) a0 a1 j0 (by omega) (by omega) (by omega)
              clear ca cb hN
              go_wp2_with (first
                | (go_at_call 4; (with_reducible refine (h1 _ (gW.up upI)).mono ?_); rintro e w' ⟨rfl, z1, rfl⟩)
                | (go_at_call 4; (with_reducible refine (h2 _ (gW.up upI)).mono ?_); rintro e w' ⟨rfl, z2, rfl⟩))
              go_roundw
              case rel => exact ⟨j + 1, by omega, by go_num, mkI⟩
              case measure => simp [intOf]; omega
            · have hj' : (36 : Int) ≤ (j : Int) := by omega
              clear hj hjl
              go_wp2_with fail
              go_roundw
              case rel => exact ⟨m + 1, by omega, by go_num, mkI⟩
              case measure => simp [intOf]; omega
        · have hm' : (11 : Int) ≤ (m : Int) := by omega
          clear hm hml
          go_wp2_with fail
          go_roundw
          case rel => exact ⟨k + 1, by omega, by go_num, mkI⟩
          case measure => simp [intOf]; omega
    · have hk' : (11 : Int) ≤ (k : Int) := by omega
      clear hN hlt hk
      go_wp2_with fail
      -- loop 4
      clear hk'
      refine wp_letter (fun W2 => UpI w W2 ∧ KAt W2 x.w.heap.size ∧ x.w.heap.size < W2.heap.size) ⟨(inferInstance : UpI w _), ⟨by simp [go_sem], by simp [go_sem], by simp [go_sem], by simp [go_sem], by simp [go_sem]⟩, (inferInstance : LtSize x.w.heap.size _).lt⟩ ?_
      rintro W2 ⟨u2, hK, lK⟩
      obtain ⟨B, hB⟩ : ∃ B, x.w.heap.size = B := ⟨_, rfl⟩
      rw [hB] at hK lK ⊢
      haveI : LtSize B W2 := ⟨lK⟩
      clear hB gW
      obtain ⟨f0, f1, f2, f3, f4⟩ := hK
      have gV := g.up u2.up
      generalize hsg : (⟨#[48, 49, 57, 46, 47, 45, 42, 58, 32, 97]⟩ : ByteArray) = sg
      have hz : sg.size = 10 := by rw [← hsg]; rfl
      clear hsg
      go_loopw [76] (fun i wr => ∃ i1 : Nat, i1 ≤ 10 ∧ i = .int .i64 (i1 : Int) ∧ ∃ x : Ext W2, wr = x.w) (fun i _ => 10 - (intOf i).toNat)
      case atStart => exact ⟨0, by omega, rfl, (Up.refl W2).mk⟩
      case round =>
        obtain ⟨i1, hi1, rfl, x1, rfl⟩ := hrel
        by_cases hil : i1 < 10
        · have hil' : (i1 : Int) < 10 := by omega
          have i10 : (0 : Int) ≤ (i1 : Int) := by omega
          go_wp2_with fail
          go_loopw [81] (fun i wr => ∃ i2 : Nat, i2 ≤ 10 ∧ i = .int .i64 (i2 : Int) ∧ ∃ x : Ext W2, wr = x.w) (fun i _ => 10 - (intOf i).toNat)
          case atStart => exact ⟨0, by omega, rfl, ⟨x1, rfl⟩⟩
          case round =>
            obtain ⟨i2, hi2, rfl, x2, rfl⟩ := hrel
            by_cases hi2l : i2 < 10
            · have hi2l' : (i2 : Int) < 10 := by omega
              have i20 : (0 : Int) ≤ (i2 : Int) := by omega
              go_wp2_with fail
              go_loopw [86] (fun i wr => ∃ i3 : Nat, i3 ≤ 10 ∧ i = .int .i64 (i3 : Int) ∧ ∃ x : Ext W2, wr = x.w) (fun i _ => 10 - (intOf i).toNat)
              case atStart => exact ⟨0, by omega, rfl, ⟨x2, rfl⟩⟩
              case round =>
                obtain ⟨i3, hi3, rfl, x3, rfl⟩ := hrel
                by_cases hi3l : i3 < 10
                · have hi3l' : (i3 : Int) < 10 := by omega
                  have i30 : (0 : Int) ≤ (i3 : Int) := by omega
                  have zi1 : (i1 : Int) < (sg.size : Int) := by omega
                  have zi2 : (i2 : Int) < (sg.size : Int) := by omega
                  have zi3 : (i3 : Int) < (sg.size : Int) := by omega
                  go_wp2_with fail
                  go_cut [14] (fun v wx => (∃ s : ByteArray, v = .string s ∧ s.size = 3) ∧ ∃ z : Ext W2, wx = z.w)
                  case first =>
                    refine wp_region_rel2 (relAt [isV (.string sg), isV (.int .i64 (i1 : Int)), (fun v _ => ∃ c : Int, v = .int .u8 c), isV (.string sg), isV (.int .i64 (i2 : Int)), (fun v _ => ∃ c : Int, v = .int .u8 c), isV (.string sg), isV (.int .i64 (i3 : Int)), (fun v _ => ∃ c : Int, v = .int .u8 c),
                      (fun v W' => ∃ (b : Nat) (c0 c1 c2 : Int), v = .slice (some ⟨b, 0, none⟩) 3 3 ∧ W'.cell? ⟨b, 0, none⟩ = some (.int .u8 c0) ∧ W'.cell? ⟨b, 1, none⟩ = some (.int .u8 c1) ∧ W'.cell? ⟨b, 2, none⟩ = some (.int .u8 c2)),
                      (fun v _ => ∃ s : ByteArray, v = .string s ∧ s.size = 3), (fun v _ => ∃ s : ByteArray, v = .string s ∧ s.size = 3)]) [89, 90, 91, 92, 93, 94, 95, 96, 97, 98, 99, 14] 251 (by kernel_rfl) (by kernel_rfl) (by kernel_rfl) rfl (relAt_mono ?hmono) ⟨?o0, ?o1, ?o2, ?o3, ?o4, ?o5, ?o6, ?o7, ?o8, ?o9, ?o10, ?o11, trivial⟩ ?hend
                    case hmono =>
                      intro r hr v W1 W2 h1 hu
                      simp only [List.mem_cons, List.not_mem_nil, or_false] at hr
                      rcases hr with rfl | rfl | rfl | rfl | rfl | rfl | rfl | rfl | rfl | rfl | rfl | rfl
                      all_goals first
                        | exact h1
                        | (obtain ⟨b, c0, c1, c2, h1, h2, h3, h4⟩ := h1; exact ⟨b, c0, c1, c2, h1, hu.cell_some' h2, hu.cell_some' h3, hu.cell_some' h4⟩)
                    case o0 =>
                      intro vs W' F Y E hu hd
                      have s0 := E.eout 9 (.string sg) rfl rfl
                      exact rel_val (v := .string sg) rfl (by simp [go_sem, s0]) (Up.refl _) rfl
                    case o1 =>
                      intro vs W' F Y E hu hd
                      have s0 := E.eout 11 (.int .i64 (i1 : Int)) rfl rfl
                      exact rel_val (v := .int .i64 (i1 : Int)) rfl (by simp [go_sem, s0]) (Up.refl _) rfl
                    case o2 =>
                      intro vs W' F Y E hu hd
                      have d0 : vs 0 = .string sg := hd ⟨0, .data⟩ (by simp) rfl
                      have d1 : vs 1 = .int .i64 (i1 : Int) := hd ⟨1, .data⟩ (by simp) rfl
                      have t0 := E.ein 0 89 _ rfl (by decide) d0
                      have t1 := E.ein 1 90 _ rfl (by decide) d1
                      exact rel_val (v := .int .u8 ((sg[i1]'(by omega)).toNat : Int)) rfl (by simp [go_sem, t0, t1, zi1]) (Up.refl _) ⟨_, rfl⟩
                    case o3 =>
                      intro vs W' F Y E hu hd
                      have s0 := E.eout 9 (.string sg) rfl rfl
                      exact rel_val (v := .string sg) rfl (by simp [go_sem, s0]) (Up.refl _) rfl
                    case o4 =>
                      intro vs W' F Y E hu hd
                      have s0 := E.eout 12 (.int .i64 (i2 : Int)) rfl rfl
                      exact rel_val (v := .int .i64 (i2 : Int)) rfl (by simp [go_sem, s0]) (Up.refl _) rfl
                    case o5 =>
                      intro vs W' F Y E hu hd
                      have d0 : vs 3 = .string sg := hd ⟨3, .data⟩ (by simp) rfl
                      have d1 : vs 4 = .int .i64 (i2 : Int) := hd ⟨4, .data⟩ (by simp) rfl
                      have t0 := E.ein 3 92 _ rfl (by decide) d0
                      have t1 := E.ein 4 93 _ rfl (by decide) d1
                      exact rel_val (v := .int .u8 ((sg[i2]'(by omega)).toNat : Int)) rfl (by simp [go_sem, t0, t1, zi2]) (Up.refl _) ⟨_, rfl⟩
                    case o6 =>
                      intro vs W' F Y E hu hd
                      have s0 := E.eout 9 (.string sg) rfl rfl
                      exact rel_val (v := .string sg) rfl (by simp [go_sem, s0]) (Up.refl _) rfl
                    case o7 =>
                      intro vs W' F Y E hu hd
                      have s0 := E.eout 13 (.int .i64 (i3 : Int)) rfl rfl
                      exact rel_val (v := .int .i64 (i3 : Int)) rfl (by simp [go_sem, s0]) (Up.refl _) rfl
                    case o8 =>
                      intro vs W' F Y E hu hd
                      have d0 : vs 6 = .string sg := hd ⟨6, .data⟩ (by simp) rfl
                      have d1 : vs 7 = .int .i64 (i3 : Int) := hd ⟨7, .data⟩ (by simp) rfl
                      have t0 := E.ein 6 95 _ rfl (by decide) d0
                      have t1 := E.ein 7 96 _ rfl (by decide) d1
                      exact rel_val (v := .int .u8 ((sg[i3]'(by omega)).toNat : Int)) rfl (by simp [go_sem, t0, t1, zi3]) (Up.refl _) ⟨_, rfl⟩
                    case o9 =>
                      intro vs W' F Y E hu hd
                      obtain ⟨c0, d0⟩ : ∃ c : Int, vs 2 = .int .u8 c := hd ⟨2, .data⟩ (by simp) rfl
                      obtain ⟨c1, d1⟩ : ∃ c : Int, vs 5 = .int .u8 c := hd ⟨5, .data⟩ (by simp) rfl
                      obtain ⟨c2, d2⟩ : ∃ c : Int, vs 8 = .int .u8 c := hd ⟨8, .data⟩ (by simp) rfl
                      have t0 := E.ein 2 91 _ rfl (by decide) d0
                      have t1 := E.ein 5 94 _ rfl (by decide) d1
                      have t2 := E.ein 8 97 _ rfl (by decide) d2
                      exact rel_val (v := .slice (some ⟨W'.heap.size, 0, none⟩) 3 3) (W' := W'.alloc (.cells #[.int .u8 c0, .int .u8 c1, .int .u8 c2] 5)) rfl (by simp [go_sem, t0, t1, t2]) ((Up.refl _).alloc _) ⟨_, c0, c1, c2, rfl, by simp [go_sem], by simp [go_sem], by simp [go_sem]⟩
                    case o10 =>
                      intro vs W' F Y E hu hd
                      obtain ⟨b, c0, c1, c2, d0, l0, l1, l2⟩ : ∃ (b : Nat) (c0 c1 c2 : Int), vs 9 = .slice (some ⟨b, 0, none⟩) 3 3 ∧ W'.cell? ⟨b, 0, none⟩ = some (.int .u8 c0) ∧ W'.cell? ⟨b, 1, none⟩ = some (.int .u8 c1) ∧ W'.cell? ⟨b, 2, none⟩ = some (.int .u8 c2) := hd ⟨9, .data⟩ (by simp) rfl
                      have t0 := E.ein 9 98 _ rfl (by decide) d0
                      obtain ⟨s, hr, hs⟩ := run_byte_cells3 W' b c0 c1 c2 l0 l1 l2
                      exact rel_val (v := .string s) rfl (by simp [go_sem, t0, hr]) (Up.refl _) ⟨s, rfl, hs⟩
                    case o11 =>
                      intro vs W' F Y E hu hd
                      obtain ⟨s, d0, hs⟩ : ∃ s : ByteArray, vs 10 = .string s ∧ s.size = 3 := hd ⟨10, .data⟩ (by simp) rfl
                      have t0 := E.ein 10 99 _ rfl (by decide) d0
                      exact rel_val (v := .string s) rfl (by simp [go_sem, t0]) (Up.refl _) ⟨s, rfl, hs⟩
                    case hend =>
                      intro vs W' hu hall
                      obtain ⟨s, d11, hs⟩ : ∃ s : ByteArray, vs 11 = .string s ∧ s.size = 3 := hall 11 (by simp)
                      obtain ⟨x9, rfl⟩ := hu.mk
                      simp only [fillL, Act.put, List.setIfInBounds_toArray, List.set_cons_zero, List.set_cons_succ, d11]
                      go_wp2_with fail
                      go_meet
                      exact ⟨⟨s, rfl, hs⟩, mkI⟩
                  case rest =>
                    obtain ⟨⟨s, rfl, hs⟩, x4, rfl⟩ := hcut
                    go_wp2_with fail
                    go_loopw [100] (fun i wr => ∃ q : Nat, q ≤ 4 ∧ i = .int .i64 (q : Int) ∧ ∃ x : Ext W2, wr = x.w) (fun i _ => 4 - (intOf i).toNat)
                    case atStart => exact ⟨0, by omega, rfl, ⟨x4, rfl⟩⟩
                    case round =>
                      obtain ⟨q, hq, rfl, x5, rfl⟩ := hrel
                      by_cases hql : q < 4
                      · have hql' : (q : Int) < 4 := by omega
                        have q0 : (0 : Int) ≤ (q : Int) := by omega
                        have m1 : (i1 : Int) % 65536 = (i1 : Int) := by omega
                        have m2 : (i2 : Int) % 65536 = (i2 : Int) := by omega
                        have m3 : (i3 : Int) % 65536 = (i3 : Int) := by omega
                        have hz3 : (q : Int) ≤ (s.size : Int) := by omega
                        have h1 := Lib.hid (fun s w g hl => texts_str s (i1 : Int) (i2 : Int) (i3 : Int) 6 1 2 3 4 6 1 2 3 4 w g hl i10 (by omega) i20 (by omega) i30 (by omega) kb0 kb0)
                        go_wp2_with fail
                        (refine wp_region_ext (by kernel_rfl) (by kernel_rfl) ?_; (repeat (go_big_quiet_step ((go_at_call 5; refine (h1.out _ _ (gV.up upI) ?_).ext; (simp only [ByteArray.size_append, ByteArray.size_extract]; omega))))); refine wpQuiet_nil ?_; rintro _ ⟨y5, rfl⟩)
                        go_wp2_with fail
                        go_roundw
                        case rel => exact ⟨q + 1, by omega, by go_num, mkI⟩
                        case measure => simp [intOf]; omega
                      · have hq' : (4 : Int) ≤ (q : Int) := by omega
                        clear hq hql
                        go_wp2_with fail
                        go_roundw
                        case rel => exact ⟨i3 + 1, by omega, by go_num, mkI⟩
                        case measure => simp [intOf]; omega
                · have hi3' : (10 : Int) ≤ (i3 : Int) := by omega
                  clear hi3 hi3l
                  go_wp2_with fail
                  go_roundw
                  case rel => exact ⟨i2 + 1, by omega, by go_num, mkI⟩
                  case measure => simp [intOf]; omega
            · have hi2' : (10 : Int) ≤ (i2 : Int) := by omega
              clear hi2 hi2l
              go_wp2_with fail
              go_roundw
              case rel => exact ⟨i1 + 1, by omega, by go_num, mkI⟩
              case measure => simp [intOf]; omega
        · have hi1' : (10 : Int) ≤ (i1 : Int) := by omega
          clear hi1 hil
          go_wp2_with fail
          -- loop 8
          refine wp_letter (fun W3 => UpI W2 W3 ∧ ∀ j : Nat, j < 15 → ∃ t : ByteArray, W3.cell? ⟨x1.w.heap.size, j, none⟩ = some (.string t) ∧ t.size ≤ 60) ⟨inferInstance, fun j hj => by
              rcases (by omega : j = 0 ∨ j = 1 ∨ j = 2 ∨ j = 3 ∨ j = 4 ∨ j = 5 ∨ j = 6 ∨ j = 7 ∨ j = 8 ∨ j = 9 ∨ j = 10 ∨ j = 11 ∨ j = 12 ∨ j = 13 ∨ j = 14) with rfl | rfl | rfl | rfl | rfl | rfl | rfl | rfl | rfl | rfl | rfl | rfl | rfl | rfl | rfl
              · exact ⟨⟨#[48, 46, 48, 46, 48, 46, 48]⟩, by simp [go_sem], by decide⟩
              · exact ⟨⟨#[50, 53, 53, 46, 50, 53, 53, 46, 50, 53, 53, 46, 50, 53, 53]⟩, by simp [go_sem], by decide⟩
              · exact ⟨⟨#[49, 48, 46, 50, 48, 46, 51, 48, 46, 52, 48]⟩, by simp [go_sem], by decide⟩
              · exact ⟨⟨#[49, 48, 46, 48, 46, 48, 46, 48, 47, 56]⟩, by simp [go_sem], by decide⟩
              · exact ⟨⟨#[48, 46, 48, 46, 48, 46, 48, 47, 48]⟩, by simp [go_sem], by decide⟩
              · exact ⟨⟨#[50, 53, 53, 46, 50, 53, 53, 46, 50, 53, 53, 46, 50, 53, 53, 47, 51, 50]⟩, by simp [go_sem], by decide⟩
              · exact ⟨⟨#[42]⟩, by simp [go_sem], by decide⟩
              · exact ⟨⟨#[48]⟩, by simp [go_sem], by decide⟩
              · exact ⟨⟨#[54, 53, 53, 51, 53]⟩, by simp [go_sem], by decide⟩
              · exact ⟨⟨#[49, 45, 54, 53, 53, 51, 53]⟩, by simp [go_sem], by decide⟩
              · exact ⟨⟨#[48, 45, 54, 53, 53, 51, 52]⟩, by simp [go_sem], by decide⟩
              · exact ⟨⟨#[56, 48, 45, 52, 52, 51]⟩, by simp [go_sem], by decide⟩
              · exact ⟨⟨#[49, 55, 32, 49, 48, 46, 48, 46, 48, 46, 49, 58, 53, 51, 32, 56, 46, 56, 46, 56, 46, 56, 58, 54, 53, 53, 51, 53]⟩, by simp [go_sem], by decide⟩
              · exact ⟨⟨#[48, 32, 48, 46, 48, 46, 48, 46, 48, 58, 48, 32, 48, 46, 48, 46, 48, 46, 48, 58, 48]⟩, by simp [go_sem], by decide⟩
              · exact ⟨⟨#[50, 53, 53, 32, 50, 53, 53, 46, 50, 53, 53, 46, 50, 53, 53, 46, 50, 53, 53, 58, 54, 53, 53, 51, 53, 32, 49, 46, 50, 46, 51, 46, 52, 58, 53]⟩, by simp [go_sem], by decide⟩⟩ ?_
          rintro W3 ⟨u3, hT⟩
          obtain ⟨C, hC⟩ : ∃ C, x1.w.heap.size = C := ⟨_, rfl⟩
          rw [hC] at hT ⊢
          clear hC hi1'
          have gX := gV.up u3.up
          haveI : UpI w W3 := ⟨u2.up.trans u3.up⟩
          have f0 := u3.up.cell_some' f0; have f1 := u3.up.cell_some' f1; have f2 := u3.up.cell_some' f2; have f3 := u3.up.cell_some' f3; have f4 := u3.up.cell_some' f4
          haveI : LtSize B W3 := ⟨cell_lt' f0⟩
          go_loopw [123] (fun i wr => ∃ j1 : Nat, j1 ≤ 15 ∧ i = .int .i64 (j1 : Int) ∧ ∃ x : Ext W3, wr = x.w) (fun i _ => 15 - (intOf i).toNat)
          case atStart => exact ⟨0, by omega, rfl, (Up.refl W3).mk⟩
          case round =>
            obtain ⟨j1, hj1, rfl, y1, rfl⟩ := hrel
            by_cases hj1l : j1 < 15
            · have hj1l' : (j1 : Int) < 15 := by omega
              have j10 : (0 : Int) ≤ (j1 : Int) := by omega
              obtain ⟨t, ct, ht⟩ := hT j1 hj1l
              haveI : LtSize C W3 := ⟨cell_lt' ct⟩
              go_wp2_with fail
              go_loopw [130] (fun i wr => ∃ j2 : Nat, j2 ≤ t.size + 1 ∧ i = .int .i64 (j2 : Int) ∧ ∃ x : Ext W3, wr = x.w) (fun i _ => t.size + 1 - (intOf i).toNat)
              case atStart => exact ⟨0, by omega, rfl, ⟨y1, rfl⟩⟩
              case round =>
                obtain ⟨j2, hj2, rfl, y2, rfl⟩ := hrel
                by_cases hj2l : j2 < t.size + 1
                · have hj2l' : (j2 : Int) < (t.size : Int) + 1 := by omega
                  have j20 : (0 : Int) ≤ (j2 : Int) := by omega
                  go_wp2_with fail
                  go_loopw [135] (fun i wr => ∃ j3 : Nat, j3 ≤ 10 ∧ i = .int .i64 (j3 : Int) ∧ ∃ x : Ext W3, wr = x.w) (fun i _ => 10 - (intOf i).toNat)
                  case atStart => exact ⟨0, by omega, rfl, ⟨y2, rfl⟩⟩
                  case round =>
                    obtain ⟨j3, hj3, rfl, y3, rfl⟩ := hrel
                    by_cases hj3l : j3 < 10
                    · have hj3l' : (j3 : Int) < 10 := by omega
                      have j30 : (0 : Int) ≤ (j3 : Int) := by omega
                      have h1 := Lib.hid (fun s w g hl => texts_str s 0 0 0 6 1 2 3 4 6 1 2 3 4 w g hl (by decide) (by decide) (by decide) (by decide) (by decide) (by decide) kb0 kb0)
                      have h2 := Lib.hid (fun s w g hl => texts_str s 0 65535 0 6 1 2 3 4 6 1 2 3 4 w g hl (by decide) (by decide) (by decide) (by decide) (by decide) (by decide) kb0 kb0)
                      have h3 := Lib.hid (fun s w g hl => texts_str s 1 0 0 6 1 2 3 4 6 1 2 3 4 w g hl (by decide) (by decide) (by decide) (by decide) (by decide) (by decide) kb0 kb0)
                      have zs : (j3 : Int) + 1 ≤ (sg.size : Int) := by omega
                      go_wp2_with fail
                      by_cases hl : j2 < t.size
                      · have hl1 : (j2 : Int) < (t.size : Int) := by omega
                        have hl2 : (j2 : Int) + 1 ≤ (t.size : Int) := by omega
                        (refine wp_region_ext (by kernel_rfl) (by kernel_rfl) ?_; (repeat (go_big_quiet_step ((first
                          | (go_at_call 5; (with_reducible refine (h1.out _ _ (gX.up upI) ?_).ext); (simp only [ByteArray.size_append, ByteArray.size_extract]; omega))
                          | (go_at_call 5; (with_reducible refine (h2.out _ _ (gX.up upI) ?_).ext); (simp only [ByteArray.size_append, ByteArray.size_extract]; omega))
                          | (go_at_call 5; (with_reducible refine (h3.out _ _ (gX.up upI) ?_).ext); (simp only [ByteArray.size_append, ByteArray.size_extract]; omega)))))); refine wpQuiet_nil ?_; rintro _ ⟨y4, rfl⟩)
                        go_wp2_with fail
                        go_roundw
                        case rel => exact ⟨j3 + 1, by omega, by go_num, mkI⟩
                        case measure => simp [intOf]; omega
                      · have hl1 : (j2 : Int) = (t.size : Int) := by omega
                        have hl2 : (j2 : Int) ≤ (t.size : Int) := by omega
                        have hl3 : ¬ (j2 : Int) < (t.size : Int) := by omega
                        clear hl1
                        (refine wp_region_ext (by kernel_rfl) (by kernel_rfl) ?_; (repeat (go_big_quiet_step ((go_at_call 5; (with_reducible refine (h1.out _ _ (gX.up upI) ?_).ext); (simp only [ByteArray.size_append, ByteArray.size_extract]; omega))))); refine wpQuiet_nil ?_; rintro _ ⟨y4, rfl⟩)
                        go_wp2_with fail
                        go_roundw
                        case rel => exact ⟨j3 + 1, by omega, by go_num, mkI⟩
                        case measure => simp [intOf]; omega
                    · have hj3' : (10 : Int) ≤ (j3 : Int) := by omega
                      clear hj3 hj3l
                      go_wp2_with fail
                      go_roundw
                      case rel => exact ⟨j2 + 1, by omega, by go_num, mkI⟩
                      case measure => simp [intOf]; omega
                · have hj2' : (t.size : Int) + 1 ≤ (j2 : Int) := by omega
                  clear hj2 hj2l
                  go_wp2_with fail
                  go_roundw
                  case rel => exact ⟨j1 + 1, by omega, by go_num, mkI⟩
                  case measure => simp [intOf]; omega
            · have hj1' : (15 : Int) ≤ (j1 : Int) := by omega
              clear hj1 hj1l hT
              go_wp2_with fail
              -- loop 11
              go_loopw [198] (fun i wr => ∃ q1 : Nat, q1 ≤ 5 ∧ i = .int .i64 (q1 : Int) ∧ ∃ x : Ext W3, wr = x.w) (fun i _ => 5 - (intOf i).toNat)
              case atStart => exact ⟨0, by omega, rfl, ⟨y1, rfl⟩⟩
              case round =>
                clear hj1'
                obtain ⟨q1, hq1, rfl, z1, rfl⟩ := hrel
                by_cases hq1l : q1 < 5
                · have hq1l' : (q1 : Int) < 5 := by omega
                  have q10 : (0 : Int) ≤ (q1 : Int) := by omega
                  go_wp2_with fail
                  refine wp_letter (fun W4 => UpI W3 W4 ∧ ∀ k : Nat, k < 6 → ∃ n : Int, W4.cell? ⟨z1.w.heap.size, k, none⟩ = some (.int .u32 n) ∧ 0 ≤ n ∧ n < 4294967296) ⟨inferInstance, fun k hk => by
                      rcases (by omega : k = 0 ∨ k = 1 ∨ k = 2 ∨ k = 3 ∨ k = 4 ∨ k = 5) with rfl | rfl | rfl | rfl | rfl | rfl
                      · exact ⟨0, by simp [go_sem], by decide, by decide⟩
                      · exact ⟨1, by simp [go_sem], by decide, by decide⟩
                      · exact ⟨5, by simp [go_sem], by decide, by decide⟩
                      · exact ⟨255, by simp [go_sem], by decide, by decide⟩
                      · exact ⟨65535, by simp [go_sem], by decide, by decide⟩
                      · exact ⟨4294967295, by simp [go_sem], by decide, by decide⟩⟩ ?_
                  rintro W4 ⟨u4, hV⟩
                  obtain ⟨D, hD⟩ : ∃ D, z1.w.heap.size = D := ⟨_, rfl⟩
                  rw [hD] at hV ⊢
                  clear hD
                  have gY := gX.up u4.up
                  have f0 := u4.up.cell_some' f0; have f1 := u4.up.cell_some' f1; have f2 := u4.up.cell_some' f2; have f3 := u4.up.cell_some' f3; have f4 := u4.up.cell_some' f4
                  haveI : LtSize B W4 := ⟨cell_lt' f0⟩
                  go_loopw [203] (fun i wr => ∃ q2 : Nat, q2 ≤ 6 ∧ i = .int .i64 (q2 : Int) ∧ ∃ x : Ext W4, wr = x.w) (fun i _ => 6 - (intOf i).toNat)
                  case atStart => exact ⟨0, by omega, rfl, (Up.refl W4).mk⟩
                  case round =>
                    obtain ⟨q2, hq2, rfl, z2, rfl⟩ := hrel
                    by_cases hq2l : q2 < 6
                    · have hq2l' : (q2 : Int) < 6 := by omega
                      have q20 : (0 : Int) ≤ (q2 : Int) := by omega
                      obtain ⟨n, cn, n0, n1⟩ := hV q2 hq2l
                      haveI : LtSize D W4 := ⟨cell_lt' cn⟩
                      clear hV
                      have m0 : 0 ≤ n % 256 := by omega
                      have m1 : n % 256 < 256 := by omega
                      have k0 : 0 ≤ n % 65536 := by omega
                      have k1 : n % 65536 < 65536 := by omega
                      have hw : IntKind.u16.wrap n = n % 65536 := by simp [IntKind.wrap, IntKind.bits, IntKind.signed]
                      rcases (by omega : q1 = 0 ∨ q1 = 1 ∨ q1 = 2 ∨ q1 = 3 ∨ q1 = 4) with hc | hc | hc | hc | hc
                      · have e0 : ((q1 : Int) == 0) = true := by rw [hc]; rfl
                        clear hc
                        go_wp2_with (go_at_call 5; refine (texts_str _ _ _ _ _ _ _ _ _ _ _ _ _ _ _ (gY.up upI) (by decide) (by omega) (by omega) (by omega) (by omega) (by omega) (by omega) ⟨by omega, by omega, by omega, by omega, by omega, by omega, by omega, by omega, by omega, by omega⟩ ⟨by omega, by omega, by omega, by omega, by omega, by omega, by omega, by omega, by omega, by omega⟩).mono ?_; rintro e w' ⟨rfl, z3, rfl⟩)
                        go_roundw
                        case rel => exact ⟨q2 + 1, by omega, by go_num, mkI⟩
                        case measure => simp [intOf]; omega
                      · have e0 : ((q1 : Int) == 0) = false := by rw [hc]; rfl
                        have e1 : ((q1 : Int) == 1) = true := by rw [hc]; rfl
                        clear hc
                        go_wp2_with (go_at_call 5; refine (texts_str _ _ _ _ _ _ _ _ _ _ _ _ _ _ _ (gY.up upI) (by decide) (by omega) (by omega) (by omega) (by omega) (by omega) (by omega) ⟨by omega, by omega, by omega, by omega, by omega, by omega, by omega, by omega, by omega, by omega⟩ ⟨by omega, by omega, by omega, by omega, by omega, by omega, by omega, by omega, by omega, by omega⟩).mono ?_; rintro e w' ⟨rfl, z3, rfl⟩)
                        go_roundw
                        case rel => exact ⟨q2 + 1, by omega, by go_num, mkI⟩
                        case measure => simp [intOf]; omega
                      · have e0 : ((q1 : Int) == 0) = false := by rw [hc]; rfl
                        have e1 : ((q1 : Int) == 1) = false := by rw [hc]; rfl
                        have e2 : ((q1 : Int) == 2) = true := by rw [hc]; rfl
                        clear hc
                        go_wp2_with (go_at_call 5; refine (texts_str _ _ _ _ _ _ _ _ _ _ _ _ _ _ _ (gY.up upI) (by decide) (by omega) (by omega) (by omega) (by omega) (by omega) (by omega) ⟨by omega, by omega, by omega, by omega, by omega, by omega, by omega, by omega, by omega, by omega⟩ ⟨by omega, by omega, by omega, by omega, by omega, by omega, by omega, by omega, by omega, by omega⟩).mono ?_; rintro e w' ⟨rfl, z3, rfl⟩)
                        go_roundw
                        case rel => exact ⟨q2 + 1, by omega, by go_num, mkI⟩
                        case measure => simp [intOf]; omega
                      · have e0 : ((q1 : Int) == 0) = false := by rw [hc]; rfl
                        have e1 : ((q1 : Int) == 1) = false := by rw [hc]; rfl
                        have e2 : ((q1 : Int) == 2) = false := by rw [hc]; rfl
                        have e3 : ((q1 : Int) == 3) = true := by rw [hc]; rfl
                        clear hc
                        go_wp2_with (go_at_call 5; refine (texts_str _ _ _ _ _ _ _ _ _ _ _ _ _ _ _ (gY.up upI) (by decide) (by omega) (by omega) (by omega) (by omega) (by omega) (by omega) ⟨by omega, by omega, by omega, by omega, by omega, by omega, by omega, by omega, by omega, by omega⟩ ⟨by omega, by omega, by omega, by omega, by omega, by omega, by omega, by omega, by omega, by omega⟩).mono ?_; rintro e w' ⟨rfl, z3, rfl⟩)
                        go_roundw
                        case rel => exact ⟨q2 + 1, by omega, by go_num, mkI⟩
                        case measure => simp [intOf]; omega
                      · have e0 : ((q1 : Int) == 0) = false := by rw [hc]; rfl
                        have e1 : ((q1 : Int) == 1) = false := by rw [hc]; rfl
                        have e2 : ((q1 : Int) == 2) = false := by rw [hc]; rfl
                        have e3 : ((q1 : Int) == 3) = false := by rw [hc]; rfl
                        clear hc
                        go_wp2_with (go_at_call 5; refine (texts_str _ _ _ _ _ _ _ _ _ _ _ _ _ _ _ (gY.up upI) (by decide) (by omega) (by omega) (by omega) (by omega) (by omega) (by omega) ⟨by omega, by omega, by omega, by omega, by omega, by omega, by omega, by omega, by omega, by omega⟩ ⟨by omega, by omega, by omega, by omega, by omega, by omega, by omega, by omega, by omega, by omega⟩).mono ?_; rintro e w' ⟨rfl, z3, rfl⟩)
                        go_roundw
                        case rel => exact ⟨q2 + 1, by omega, by go_num, mkI⟩
                        case measure => simp [intOf]; omega
                    · have hq2' : (6 : Int) ≤ (q2 : Int) := by omega
                      clear hq2 hq2l
                      go_wp2_with fail
                      go_roundw
                      case rel => exact ⟨q1 + 1, by omega, by go_num, mkI⟩
                      case measure => simp [intOf]; omega
                · have hq1' : (5 : Int) ≤ (q1 : Int) := by omega
                  clear hq1 hq1l
                  go_wp2_with (go_at_call 6; refine (awake_any _ (gX.up upI)).mono ?_; rintro e w' ⟨rfl, z9, rfl⟩)
                  go_ret
                  exact ⟨rfl, mkI⟩
end Go.Proofs.YtdiiicnjbgimmaaGreatDoor
