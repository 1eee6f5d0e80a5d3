/- Right phases and the class of a phase: the reference. The line of a flow: the program. The line of a flow: the reference. The lines of flows: dump.All. -/
import Derived.Test.YteciigbonaecoaaGreatDoorFlA
import Derived.Test.YteciigbonaecoaaGreatDoorFast
import Derived.Test.YteciigbonaecoaaGreatDoorDBuild
import Derived.Test.YteciigbonaecoaaGreatDoorRfA
set_option linter.unusedSimpArgs false
set_option linter.unusedVariables false
namespace Go.Ab
open Go.RowKit Go.Proofs.YteciigbonaecoaaGreatDoor
theorem rtrack_at {W : World} {b f : Nat} {p : Ph} (h : W.rangeAt b f p.rarr.toList) : W.rangeAt b (f + 5) (rtrackA p.a p.b).toList := fun j u hj => by
  have : p.rarr.toList[5 + j]? = some u := by
    rw [show p.rarr.toList = (p.rarr.toList.take 5) ++ (rtrackA p.a p.b).toList from rfl, List.getElem?_append_right (by simp [Ph.rarr])]
    simpa [Ph.rarr] using hj
  rw [Nat.add_assoc]
  exact h _ u this
end Go.Ab
namespace Go.Proofs.YteciigbonaecoaaGreatDoor
open Go.RowKit Go.Ab
def rtrackZ : Array Value := rtrackA ⟨false, false, 0, 0, 0⟩ ⟨false, false, 0, 0, 0⟩
theorem build_rtrack (w : World) : (Instr.build 53 #[]).run Tryz.prog w = .ok (.agg rtrackZ) w := by kernel_rfl
set_option maxHeartbeats 8000000 in
set_option maxRecDepth 100000 in
theorem eq_rtrack (a b : TSd) (w : World) : (Op.equalIn 10000 53 (.agg (rtrackA a b)) (.agg rtrackZ)).run Tryz.prog w = .ok (a.isZero && b.isZero) w := by
  obtain ⟨s1, a1, n1, k1, z1⟩ := a
  obtain ⟨s2, a2, n2, k2, z2⟩ := b
  unfold rtrackZ rtrackA TSd.isZero
  cases s1
  case true => simp [go_sem]
  cases a1
  case true => simp [go_sem]
  cases h1 : (n1 == 0)
  · simp [go_sem, h1]
  cases h2 : (k1 == 0)
  · simp [go_sem, h1, h2]
  cases h3 : (z1 == 0)
  · simp [go_sem, h1, h2, h3]
  cases s2
  case true => simp [go_sem, h1, h2, h3]
  cases a2
  case true => simp [go_sem, h1, h2, h3]
  cases h4 : (n2 == 0)
  · simp [go_sem, h1, h2, h3, h4]
  cases h5 : (k2 == 0)
  · simp [go_sem, h1, h2, h3, h4, h5]
  cases h6 : (z2 == 0) <;> simp [go_sem, h1, h2, h3, h4, h5, h6]
theorem rphaseSize : (Tryz.prog.info? 55).map (·.size) = some 15 := by kernel_rfl
theorem rtrackSize : (Tryz.prog.info? 53).map (·.size) = some 10 := by kernel_rfl
set_option maxHeartbeats 32000000 in
set_option maxRecDepth 100000 in
theorem pright_any (p : Ph) (b : PhB p) (w : World) : Gives Tryz.prog 79 #[.agg p.rarr] w (.bool p.right) := by
  obtain ⟨R, hRt⟩ : ∃ R, p.right = R := ⟨_, rfl⟩
  rw [hRt]
  unfold Ph.right at hRt
  have hS := fun W => srefRight_any p.kd p.st p.ty W b.k0 b.k1 b.s0 b.s1 b.t0 b.t1
  have hts0 : (Tryz.prog.info? 53).map (·.size) = some (rtrackA p.a p.b).toList.length := rtrackSize
  have hEq0 := fun W => eq_rtrack p.a p.b W
  have hta := fun (W : World) (b f : Nat) (h : W.rangeAt b f p.rarr.toList) => rtrack_at h
  have a0 : p.rarr[0]? = some (.int .u8 p.kd) := rfl
  have a1 : p.rarr[1]? = some (.int .u8 p.st) := rfl
  have a2 : p.rarr[2]? = some (.int .u8 p.ty) := rfl
  have a3 : p.rarr[3]? = some (.bool p.rp) := rfl
  have a4 : p.rarr[4]? = some (.bool p.ss) := rfl
  obtain ⟨b1, b2, b3, b4, b5, b6⟩ := b
  unfold Ph.tz at hRt
  generalize (p.a.isZero && p.b.isZero) = TZ at *
  generalize sRightB p.kd p.st p.ty = SB at *
  generalize p.kd = kd at *
  generalize p.st = st at *
  generalize p.ty = ty at *
  generalize p.rp = rp at *
  generalize p.ss = ss at *
  obtain ⟨ta, hta1⟩ : ∃ ta, rtrackA p.a p.b = ta := ⟨_, rfl⟩
  obtain ⟨tz, htz1⟩ : ∃ tz, rtrackZ = tz := ⟨_, rfl⟩
  rw [hta1] at hts0 hEq0
  rw [htz1] at hEq0
  simp only [hta1] at hta
  have hts := hts0
  have build_rtrack := fun W => build_rtrack W
  rw [htz1] at build_rtrack
  generalize p.rarr = pa at *
  clear hta1 htz1 hts0
  unfold Gives
  go_enter Tryz.func79, Tryz.ntmps79
  go_upto_region 1 with fail
  obtain ⟨A, hA⟩ : ∃ A, w.heap.size = A := ⟨_, rfl⟩
  rw [hA]
  refine wp_letter (fun W => UpI w W ∧ W.heap[A]? = some (.cells pa 55 (0, 0))) ⟨inferInstance, alloc_new hA⟩ ?_
  clear hA
  rintro W ⟨uW, hR⟩
  haveI := uW
  have c0 := row_cellF hR 0 _ a0
  have c1 := row_cellF hR 1 _ a1
  have c2 := row_cellF hR 2 _ a2
  have c3 := row_cellF hR 3 _ a3
  have c4 := row_cellF hR 4 _ a4
  haveI : LtSize A W := ⟨cell_lt c0⟩
  have hTr : ∀ V, UpI W V → V.rangeAt A 5 ta.toList := fun V h => by
    have := hta V A 0 (fun j u hj => by rw [Nat.zero_add]; exact h.up.cell_some' (row_cellF hR j u (by simpa using hj)))
    rwa [Nat.zero_add] at this
  clear hta a0 a1 a2 a3 a4
  have hEq : ∀ V, (Op.equalIn 10000 53 (.agg ta) (.agg tz)).run Tryz.prog V = .ok TZ V := hEq0
  clear hEq0
  cases ss
  case false =>
    cases rp
    case false =>
      by_cases k1 : kd = 1
      · subst k1
        by_cases t00 : ty = 0
        · subst t00
          by_cases l1 : st < 1
          · have n1 : ¬ st = 1 := by omega
            have n2 : ¬ st = 2 := by omega
            have n3 : ¬ (3 ≤ st ∧ st ≤ 7) := by omega
            have n8 : ¬ st = 8 := by omega
            have HR := Lib.hid hRt
            clear hRt
            go_wp2_with (first
              | ((with_reducible refine held ?_); refine H_load_midG 53 _ rfl A 5 rfl (by kernel_rfl) ta.toList _ (hTr _ inferInstance) Tryz.underlying53 rfl hts ?_)
              | ((with_reducible refine held ?_); refine H_buildRunG 53 _ rfl (by kernel_rfl) #[] (by kernel_rfl) _ _ (build_rtrack _) ?_)
              | (go_at_call 109; (with_reducible refine (hS _).mono ?_); rintro e w' ⟨rfl, z2, rfl⟩))
            all_goals go_ret
            all_goals exact ⟨ret_bool (by rw [← HR.out]; simp [n1, n2, n3, n8]), mkI⟩
          have l1' : 1 ≤ st := by omega
          clear l1
          by_cases l9 : 8 < st
          · have n1 : ¬ st = 1 := by omega
            have n2 : ¬ st = 2 := by omega
            have n3 : ¬ (3 ≤ st ∧ st ≤ 7) := by omega
            have n8 : ¬ st = 8 := by omega
            have HR := Lib.hid hRt
            clear hRt
            go_wp2_with (first
              | ((with_reducible refine held ?_); refine H_load_midG 53 _ rfl A 5 rfl (by kernel_rfl) ta.toList _ (hTr _ inferInstance) Tryz.underlying53 rfl hts ?_)
              | ((with_reducible refine held ?_); refine H_buildRunG 53 _ rfl (by kernel_rfl) #[] (by kernel_rfl) _ _ (build_rtrack _) ?_)
              | (go_at_call 109; (with_reducible refine (hS _).mono ?_); rintro e w' ⟨rfl, z2, rfl⟩))
            all_goals go_ret
            all_goals exact ⟨ret_bool (by rw [← HR.out]; simp [n1, n2, n3, n8]), mkI⟩
          have l9' : st ≤ 8 := by omega
          clear l9
          by_cases n1 : st = 1
          · subst n1
            have HR := Lib.hid hRt
            clear hRt
            go_wp2_with (first
              | ((with_reducible refine held ?_); refine H_load_midG 53 _ rfl A 5 rfl (by kernel_rfl) ta.toList _ (hTr _ inferInstance) Tryz.underlying53 rfl hts ?_)
              | ((with_reducible refine held ?_); refine H_buildRunG 53 _ rfl (by kernel_rfl) #[] (by kernel_rfl) _ _ (build_rtrack _) ?_)
              | (go_at_call 109; (with_reducible refine (hS _).mono ?_); rintro e w' ⟨rfl, z2, rfl⟩))
            all_goals go_ret
            all_goals exact ⟨ret_bool (by rw [← HR.out]; rfl), mkI⟩
          by_cases n2 : st = 2
          · subst n2
            have HR := Lib.hid hRt
            clear hRt
            go_wp2_with (first
              | ((with_reducible refine held ?_); refine H_load_midG 53 _ rfl A 5 rfl (by kernel_rfl) ta.toList _ (hTr _ inferInstance) Tryz.underlying53 rfl hts ?_)
              | ((with_reducible refine held ?_); refine H_buildRunG 53 _ rfl (by kernel_rfl) #[] (by kernel_rfl) _ _ (build_rtrack _) ?_)
              | (go_at_call 109; (with_reducible refine (hS _).mono ?_); rintro e w' ⟨rfl, z2, rfl⟩))
            all_goals go_ret
            all_goals exact ⟨ret_bool (by rw [← HR.out]; rfl), mkI⟩
          by_cases n8 : st = 8
          · subst n8
            have HR := Lib.hid hRt
            clear hRt
            go_wp2_with (first
              | ((with_reducible refine held ?_); refine H_load_midG 53 _ rfl A 5 rfl (by kernel_rfl) ta.toList _ (hTr _ inferInstance) Tryz.underlying53 rfl hts ?_)
              | ((with_reducible refine held ?_); refine H_buildRunG 53 _ rfl (by kernel_rfl) #[] (by kernel_rfl) _ _ (build_rtrack _) ?_)
              | (go_at_call 109; (with_reducible refine (hS _).mono ?_); rintro e w' ⟨rfl, z2, rfl⟩))
            all_goals go_ret
            all_goals exact ⟨ret_bool (by rw [← HR.out]; rfl), mkI⟩
          have e1 : (st == 1) = false := by simpa using n1
          have e2 : (st == 2) = false := by simpa using n2
          have e8 : (st == 8) = false := by simpa using n8
          have l3 : 3 ≤ st := by omega
          have l7 : st ≤ 7 := by omega
          have HR := Lib.hid hRt
          clear hRt
          go_wp2_with (first
            | ((with_reducible refine held ?_); refine H_load_midG 53 _ rfl A 5 rfl (by kernel_rfl) ta.toList _ (hTr _ inferInstance) Tryz.underlying53 rfl hts ?_)
            | ((with_reducible refine held ?_); refine H_buildRunG 53 _ rfl (by kernel_rfl) #[] (by kernel_rfl) _ _ (build_rtrack _) ?_)
            | (go_at_call 109; (with_reducible refine (hS _).mono ?_); rintro e w' ⟨rfl, z2, rfl⟩))
          all_goals go_ret
          all_goals exact ⟨ret_bool (by rw [← HR.out]; simp [n1, n2, n8, l3, l7]), mkI⟩
        · have tb : (ty == 0) = false := by simpa using t00
          have HR := Lib.hid hRt
          clear hRt
          go_wp2_with (first
            | ((with_reducible refine held ?_); refine H_load_midG 53 _ rfl A 5 rfl (by kernel_rfl) ta.toList _ (hTr _ inferInstance) Tryz.underlying53 rfl hts ?_)
            | ((with_reducible refine held ?_); refine H_buildRunG 53 _ rfl (by kernel_rfl) #[] (by kernel_rfl) _ _ (build_rtrack _) ?_)
            | (go_at_call 109; (with_reducible refine (hS _).mono ?_); rintro e w' ⟨rfl, z2, rfl⟩))
          all_goals go_ret
          all_goals exact ⟨ret_bool (by rw [← HR.out]; simp [t00]), mkI⟩
      · have kb : (kd == 1) = false := by simpa using k1
        cases SB
        case false =>
          have HR := Lib.hid hRt
          clear hRt
          go_wp2_with (first
            | ((with_reducible refine held ?_); refine H_load_midG 53 _ rfl A 5 rfl (by kernel_rfl) ta.toList _ (hTr _ inferInstance) Tryz.underlying53 rfl hts ?_)
            | ((with_reducible refine held ?_); refine H_buildRunG 53 _ rfl (by kernel_rfl) #[] (by kernel_rfl) _ _ (build_rtrack _) ?_)
            | (go_at_call 109; (with_reducible refine (hS _).mono ?_); rintro e w' ⟨rfl, z2, rfl⟩))
          all_goals go_ret
          all_goals exact ⟨ret_bool (by rw [← HR.out]; simp [k1]), mkI⟩
        case true =>
          cases TZ
          case false =>
            have HR := Lib.hid hRt
            clear hRt
            go_wp2_with (first
              | ((with_reducible refine held ?_); refine H_load_midG 53 _ rfl A 5 rfl (by kernel_rfl) ta.toList _ (hTr _ inferInstance) Tryz.underlying53 rfl hts ?_)
              | ((with_reducible refine held ?_); refine H_buildRunG 53 _ rfl (by kernel_rfl) #[] (by kernel_rfl) _ _ (build_rtrack _) ?_)
              | (go_at_call 109; (with_reducible refine (hS _).mono ?_); rintro e w' ⟨rfl, z2, rfl⟩))
            all_goals go_ret
            all_goals exact ⟨ret_bool (by rw [← HR.out]; simp [k1]), mkI⟩
          case true =>
            by_cases s2 : st = 2
            · subst s2
              have HR := Lib.hid hRt
              clear hRt
              go_wp2_with (first
                | ((with_reducible refine held ?_); refine H_load_midG 53 _ rfl A 5 rfl (by kernel_rfl) ta.toList _ (hTr _ inferInstance) Tryz.underlying53 rfl hts ?_)
                | ((with_reducible refine held ?_); refine H_buildRunG 53 _ rfl (by kernel_rfl) #[] (by kernel_rfl) _ _ (build_rtrack _) ?_)
                | (go_at_call 109; (with_reducible refine (hS _).mono ?_); rintro e w' ⟨rfl, z2, rfl⟩))
              all_goals go_ret
              all_goals exact ⟨ret_bool (by rw [← HR.out]; simp [k1]), mkI⟩
            · have e2 : (st == 2) = false := by simpa using s2
              have HR := Lib.hid hRt
              clear hRt
              go_wp2_with (first
                | ((with_reducible refine held ?_); refine H_load_midG 53 _ rfl A 5 rfl (by kernel_rfl) ta.toList _ (hTr _ inferInstance) Tryz.underlying53 rfl hts ?_)
                | ((with_reducible refine held ?_); refine H_buildRunG 53 _ rfl (by kernel_rfl) #[] (by kernel_rfl) _ _ (build_rtrack _) ?_)
                | (go_at_call 109; (with_reducible refine (hS _).mono ?_); rintro e w' ⟨rfl, z2, rfl⟩))
              all_goals go_ret
              all_goals exact ⟨ret_bool (by rw [← HR.out]; simp [k1, s2]), mkI⟩
    case true =>
      by_cases k1 : kd = 1
      · subst k1
        by_cases t00 : ty = 0
        · subst t00
          by_cases l1 : st < 1
          · have n1 : ¬ st = 1 := by omega
            have n2 : ¬ st = 2 := by omega
            have n3 : ¬ (3 ≤ st ∧ st ≤ 7) := by omega
            have n8 : ¬ st = 8 := by omega
            have HR := Lib.hid hRt
            clear hRt
            go_wp2_with (first
              | ((with_reducible refine held ?_); refine H_load_midG 53 _ rfl A 5 rfl (by kernel_rfl) ta.toList _ (hTr _ inferInstance) Tryz.underlying53 rfl hts ?_)
              | ((with_reducible refine held ?_); refine H_buildRunG 53 _ rfl (by kernel_rfl) #[] (by kernel_rfl) _ _ (build_rtrack _) ?_)
              | (go_at_call 109; (with_reducible refine (hS _).mono ?_); rintro e w' ⟨rfl, z2, rfl⟩))
            all_goals go_ret
            all_goals exact ⟨ret_bool (by rw [← HR.out]; simp [n1, n2, n3, n8]), mkI⟩
          have l1' : 1 ≤ st := by omega
          clear l1
          by_cases l9 : 8 < st
          · have n1 : ¬ st = 1 := by omega
            have n2 : ¬ st = 2 := by omega
            have n3 : ¬ (3 ≤ st ∧ st ≤ 7) := by omega
            have n8 : ¬ st = 8 := by omega
            have HR := Lib.hid hRt
            clear hRt
            go_wp2_with (first
              | ((with_reducible refine held ?_); refine H_load_midG 53 _ rfl A 5 rfl (by kernel_rfl) ta.toList _ (hTr _ inferInstance) Tryz.underlying53 rfl hts ?_)
              | ((with_reducible refine held ?_); refine H_buildRunG 53 _ rfl (by kernel_rfl) #[] (by kernel_rfl) _ _ (build_rtrack _) ?_)
              | (go_at_call 109; (with_reducible refine (hS _).mono ?_); rintro e w' ⟨rfl, z2, rfl⟩))
            all_goals go_ret
            all_goals exact ⟨ret_bool (by rw [← HR.out]; simp [n1, n2, n3, n8]), mkI⟩
          have l9' : st ≤ 8 := by omega
          clear l9
          by_cases n1 : st = 1
          · subst n1
            have HR := Lib.hid hRt
            clear hRt
            go_wp2_with (first
              | ((with_reducible refine held ?_); refine H_load_midG 53 _ rfl A 5 rfl (by kernel_rfl) ta.toList _ (hTr _ inferInstance) Tryz.underlying53 rfl hts ?_)
              | ((with_reducible refine held ?_); refine H_buildRunG 53 _ rfl (by kernel_rfl) #[] (by kernel_rfl) _ _ (build_rtrack _) ?_)
              | (go_at_call 109; (with_reducible refine (hS _).mono ?_); rintro e w' ⟨rfl, z2, rfl⟩))
            all_goals go_ret
            all_goals exact ⟨ret_bool (by rw [← HR.out]; rfl), mkI⟩
          by_cases n2 : st = 2
          · subst n2
            have HR := Lib.hid hRt
            clear hRt
            go_wp2_with (first
              | ((with_reducible refine held ?_); refine H_load_midG 53 _ rfl A 5 rfl (by kernel_rfl) ta.toList _ (hTr _ inferInstance) Tryz.underlying53 rfl hts ?_)
              | ((with_reducible refine held ?_); refine H_buildRunG 53 _ rfl (by kernel_rfl) #[] (by kernel_rfl) _ _ (build_rtrack _) ?_)
              | (go_at_call 109; (with_reducible refine (hS _).mono ?_); rintro e w' ⟨rfl, z2, rfl⟩))
            all_goals go_ret
            all_goals exact ⟨ret_bool (by rw [← HR.out]; rfl), mkI⟩
          by_cases n8 : st = 8
          · subst n8
            have HR := Lib.hid hRt
            clear hRt
            go_wp2_with (first
              | ((with_reducible refine held ?_); refine H_load_midG 53 _ rfl A 5 rfl (by kernel_rfl) ta.toList _ (hTr _ inferInstance) Tryz.underlying53 rfl hts ?_)
              | ((with_reducible refine held ?_); refine H_buildRunG 53 _ rfl (by kernel_rfl) #[] (by kernel_rfl) _ _ (build_rtrack _) ?_)
              | (go_at_call 109; (with_reducible refine (hS _).mono ?_); rintro e w' ⟨rfl, z2, rfl⟩))
            all_goals go_ret
            all_goals exact ⟨ret_bool (by rw [← HR.out]; rfl), mkI⟩
          have e1 : (st == 1) = false := by simpa using n1
          have e2 : (st == 2) = false := by simpa using n2
          have e8 : (st == 8) = false := by simpa using n8
          have l3 : 3 ≤ st := by omega
          have l7 : st ≤ 7 := by omega
          have HR := Lib.hid hRt
          clear hRt
          go_wp2_with (first
            | ((with_reducible refine held ?_); refine H_load_midG 53 _ rfl A 5 rfl (by kernel_rfl) ta.toList _ (hTr _ inferInstance) Tryz.underlying53 rfl hts ?_)
            | ((with_reducible refine held ?_); refine H_buildRunG 53 _ rfl (by kernel_rfl) #[] (by kernel_rfl) _ _ (build_rtrack _) ?_)
            | (go_at_call 109; (with_reducible refine (hS _).mono ?_); rintro e w' ⟨rfl, z2, rfl⟩))
          all_goals go_ret
          all_goals exact ⟨ret_bool (by rw [← HR.out]; simp [n1, n2, n8, l3, l7]), mkI⟩
        · have tb : (ty == 0) = false := by simpa using t00
          have HR := Lib.hid hRt
          clear hRt
          go_wp2_with (first
            | ((with_reducible refine held ?_); refine H_load_midG 53 _ rfl A 5 rfl (by kernel_rfl) ta.toList _ (hTr _ inferInstance) Tryz.underlying53 rfl hts ?_)
            | ((with_reducible refine held ?_); refine H_buildRunG 53 _ rfl (by kernel_rfl) #[] (by kernel_rfl) _ _ (build_rtrack _) ?_)
            | (go_at_call 109; (with_reducible refine (hS _).mono ?_); rintro e w' ⟨rfl, z2, rfl⟩))
          all_goals go_ret
          all_goals exact ⟨ret_bool (by rw [← HR.out]; simp [t00]), mkI⟩
      · have kb : (kd == 1) = false := by simpa using k1
        cases SB
        case false =>
          have HR := Lib.hid hRt
          clear hRt
          go_wp2_with (first
            | ((with_reducible refine held ?_); refine H_load_midG 53 _ rfl A 5 rfl (by kernel_rfl) ta.toList _ (hTr _ inferInstance) Tryz.underlying53 rfl hts ?_)
            | ((with_reducible refine held ?_); refine H_buildRunG 53 _ rfl (by kernel_rfl) #[] (by kernel_rfl) _ _ (build_rtrack _) ?_)
            | (go_at_call 109; (with_reducible refine (hS _).mono ?_); rintro e w' ⟨rfl, z2, rfl⟩))
          all_goals go_ret
          all_goals exact ⟨ret_bool (by rw [← HR.out]; simp [k1]), mkI⟩
        case true =>
          cases TZ
          case false =>
            have HR := Lib.hid hRt
            clear hRt
            go_wp2_with (first
              | ((with_reducible refine held ?_); refine H_load_midG 53 _ rfl A 5 rfl (by kernel_rfl) ta.toList _ (hTr _ inferInstance) Tryz.underlying53 rfl hts ?_)
              | ((with_reducible refine held ?_); refine H_buildRunG 53 _ rfl (by kernel_rfl) #[] (by kernel_rfl) _ _ (build_rtrack _) ?_)
              | (go_at_call 109; (with_reducible refine (hS _).mono ?_); rintro e w' ⟨rfl, z2, rfl⟩))
            all_goals go_ret
            all_goals exact ⟨ret_bool (by rw [← HR.out]; simp [k1]), mkI⟩
          case true =>
            by_cases s2 : st = 2
            · subst s2
              have HR := Lib.hid hRt
              clear hRt
              go_wp2_with (first
                | ((with_reducible refine held ?_); refine H_load_midG 53 _ rfl A 5 rfl (by kernel_rfl) ta.toList _ (hTr _ inferInstance) Tryz.underlying53 rfl hts ?_)
                | ((with_reducible refine held ?_); refine H_buildRunG 53 _ rfl (by kernel_rfl) #[] (by kernel_rfl) _ _ (build_rtrack _) ?_)
                | (go_at_call 109; (with_reducible refine (hS _).mono ?_); rintro e w' ⟨rfl, z2, rfl⟩))
              all_goals go_ret
              all_goals exact ⟨ret_bool (by rw [← HR.out]; simp [k1]), mkI⟩
            · have e2 : (st == 2) = false := by simpa using s2
              have HR := Lib.hid hRt
              clear hRt
              go_wp2_with (first
                | ((with_reducible refine held ?_); refine H_load_midG 53 _ rfl A 5 rfl (by kernel_rfl) ta.toList _ (hTr _ inferInstance) Tryz.underlying53 rfl hts ?_)
                | ((with_reducible refine held ?_); refine H_buildRunG 53 _ rfl (by kernel_rfl) #[] (by kernel_rfl) _ _ (build_rtrack _) ?_)
                | (go_at_call 109; (with_reducible refine (hS _).mono ?_); rintro e w' ⟨rfl, z2, rfl⟩))
              all_goals go_ret
              all_goals exact ⟨ret_bool (by rw [← HR.out]; simp [k1, s2]), mkI⟩
  case true =>
    cases rp
    case false =>
      by_cases k1 : kd = 1
      · subst k1
        by_cases t00 : ty = 0
        · subst t00
          by_cases l1 : st < 1
          · have n1 : ¬ st = 1 := by omega
            have n2 : ¬ st = 2 := by omega
            have n3 : ¬ (3 ≤ st ∧ st ≤ 7) := by omega
            have n8 : ¬ st = 8 := by omega
            have HR := Lib.hid hRt
            clear hRt
            go_wp2_with (first
              | ((with_reducible refine held ?_); refine H_load_midG 53 _ rfl A 5 rfl (by kernel_rfl) ta.toList _ (hTr _ inferInstance) Tryz.underlying53 rfl hts ?_)
              | ((with_reducible refine held ?_); refine H_buildRunG 53 _ rfl (by kernel_rfl) #[] (by kernel_rfl) _ _ (build_rtrack _) ?_)
              | (go_at_call 109; (with_reducible refine (hS _).mono ?_); rintro e w' ⟨rfl, z2, rfl⟩))
            all_goals go_ret
            all_goals exact ⟨ret_bool (by rw [← HR.out]; simp [n1, n2, n3, n8]), mkI⟩
          have l1' : 1 ≤ st := by omega
          clear l1
          by_cases l9 : 8 < st
          · have n1 : ¬ st = 1 := by omega
            have n2 : ¬ st = 2 := by omega
            have n3 : ¬ (3 ≤ st ∧ st ≤ 7) := by omega
            have n8 : ¬ st = 8 := by omega
            have HR := Lib.hid hRt
            clear hRt
            go_wp2_with (first
              | ((with_reducible refine held ?_); refine H_load_midG 53 _ rfl A 5 rfl (by kernel_rfl) ta.toList _ (hTr _ inferInstance) Tryz.underlying53 rfl hts ?_)
              | ((with_reducible refine held ?_); refine H_buildRunG 53 _ rfl (by kernel_rfl) #[] (by kernel_rfl) _ _ (build_rtrack _) ?_)
              | (go_at_call 109; (with_reducible refine (hS _).mono ?_); rintro e w' ⟨rfl, z2, rfl⟩))
            all_goals go_ret
            all_goals exact ⟨ret_bool (by rw [← HR.out]; simp [n1, n2, n3, n8]), mkI⟩
          have l9' : st ≤ 8 := by omega
          clear l9
          by_cases n1 : st = 1
          · subst n1
            have HR := Lib.hid hRt
            clear hRt
            go_wp2_with (first
              | ((with_reducible refine held ?_); refine H_load_midG 53 _ rfl A 5 rfl (by kernel_rfl) ta.toList _ (hTr _ inferInstance) Tryz.underlying53 rfl hts ?_)
              | ((with_reducible refine held ?_); refine H_buildRunG 53 _ rfl (by kernel_rfl) #[] (by kernel_rfl) _ _ (build_rtrack _) ?_)
              | (go_at_call 109; (with_reducible refine (hS _).mono ?_); rintro e w' ⟨rfl, z2, rfl⟩))
            all_goals go_ret
            all_goals exact ⟨ret_bool (by rw [← HR.out]; rfl), mkI⟩
          by_cases n2 : st = 2
          · subst n2
            have HR := Lib.hid hRt
            clear hRt
            go_wp2_with (first
              | ((with_reducible refine held ?_); refine H_load_midG 53 _ rfl A 5 rfl (by kernel_rfl) ta.toList _ (hTr _ inferInstance) Tryz.underlying53 rfl hts ?_)
              | ((with_reducible refine held ?_); refine H_buildRunG 53 _ rfl (by kernel_rfl) #[] (by kernel_rfl) _ _ (build_rtrack _) ?_)
              | (go_at_call 109; (with_reducible refine (hS _).mono ?_); rintro e w' ⟨rfl, z2, rfl⟩))
            all_goals go_ret
            all_goals exact ⟨ret_bool (by rw [← HR.out]; rfl), mkI⟩
          by_cases n8 : st = 8
          · subst n8
            have HR := Lib.hid hRt
            clear hRt
            go_wp2_with (first
              | ((with_reducible refine held ?_); refine H_load_midG 53 _ rfl A 5 rfl (by kernel_rfl) ta.toList _ (hTr _ inferInstance) Tryz.underlying53 rfl hts ?_)
              | ((with_reducible refine held ?_); refine H_buildRunG 53 _ rfl (by kernel_rfl) #[] (by kernel_rfl) _ _ (build_rtrack _) ?_)
              | (go_at_call 109; (with_reducible refine (hS _).mono ?_); rintro e w' ⟨rfl, z2, rfl⟩))
            all_goals go_ret
            all_goals exact ⟨ret_bool (by rw [← HR.out]; rfl), mkI⟩
          have e1 : (st == 1) = false := by simpa using n1
          have e2 : (st == 2) = false := by simpa using n2
          have e8 : (st == 8) = false := by simpa using n8
          have l3 : 3 ≤ st := by omega
          have l7 : st ≤ 7 := by omega
          have HR := Lib.hid hRt
          clear hRt
          go_wp2_with (first
            | ((with_reducible refine held ?_); refine H_load_midG 53 _ rfl A 5 rfl (by kernel_rfl) ta.toList _ (hTr _ inferInstance) Tryz.underlying53 rfl hts ?_)
            | ((with_reducible refine held ?_); refine H_buildRunG 53 _ rfl (by kernel_rfl) #[] (by kernel_rfl) _ _ (build_rtrack _) ?_)
            | (go_at_call 109; (with_reducible refine (hS _).mono ?_); rintro e w' ⟨rfl, z2, rfl⟩))
          all_goals go_ret
          all_goals exact ⟨ret_bool (by rw [← HR.out]; simp [n1, n2, n8, l3, l7]), mkI⟩
        · have tb : (ty == 0) = false := by simpa using t00
          have HR := Lib.hid hRt
          clear hRt
          go_wp2_with (first
            | ((with_reducible refine held ?_); refine H_load_midG 53 _ rfl A 5 rfl (by kernel_rfl) ta.toList _ (hTr _ inferInstance) Tryz.underlying53 rfl hts ?_)
            | ((with_reducible refine held ?_); refine H_buildRunG 53 _ rfl (by kernel_rfl) #[] (by kernel_rfl) _ _ (build_rtrack _) ?_)
            | (go_at_call 109; (with_reducible refine (hS _).mono ?_); rintro e w' ⟨rfl, z2, rfl⟩))
          all_goals go_ret
          all_goals exact ⟨ret_bool (by rw [← HR.out]; simp [t00]), mkI⟩
      · have kb : (kd == 1) = false := by simpa using k1
        cases SB
        case false =>
          have HR := Lib.hid hRt
          clear hRt
          go_wp2_with (first
            | ((with_reducible refine held ?_); refine H_load_midG 53 _ rfl A 5 rfl (by kernel_rfl) ta.toList _ (hTr _ inferInstance) Tryz.underlying53 rfl hts ?_)
            | ((with_reducible refine held ?_); refine H_buildRunG 53 _ rfl (by kernel_rfl) #[] (by kernel_rfl) _ _ (build_rtrack _) ?_)
            | (go_at_call 109; (with_reducible refine (hS _).mono ?_); rintro e w' ⟨rfl, z2, rfl⟩))
          all_goals go_ret
          all_goals exact ⟨ret_bool (by rw [← HR.out]; simp [k1]), mkI⟩
        case true =>
          cases TZ
          case false =>
            have HR := Lib.hid hRt
            clear hRt
            go_wp2_with (first
              | ((with_reducible refine held ?_); refine H_load_midG 53 _ rfl A 5 rfl (by kernel_rfl) ta.toList _ (hTr _ inferInstance) Tryz.underlying53 rfl hts ?_)
              | ((with_reducible refine held ?_); refine H_buildRunG 53 _ rfl (by kernel_rfl) #[] (by kernel_rfl) _ _ (build_rtrack _) ?_)
              | (go_at_call 109; (with_reducible refine (hS _).mono ?_); rintro e w' ⟨rfl, z2, rfl⟩))
            all_goals go_ret
            all_goals exact ⟨ret_bool (by rw [← HR.out]; simp [k1]), mkI⟩
          case true =>
            by_cases s2 : st = 2
            · subst s2
              have HR := Lib.hid hRt
              clear hRt
              go_wp2_with (first
                | ((with_reducible refine held ?_); refine H_load_midG 53 _ rfl A 5 rfl (by kernel_rfl) ta.toList _ (hTr _ inferInstance) Tryz.underlying53 rfl hts ?_)
                | ((with_reducible refine held ?_); refine H_buildRunG 53 _ rfl (by kernel_rfl) #[] (by kernel_rfl) _ _ (build_rtrack _) ?_)
                | (go_at_call 109; (with_reducible refine (hS _).mono ?_); rintro e w' ⟨rfl, z2, rfl⟩))
              all_goals go_ret
              all_goals exact ⟨ret_bool (by rw [← HR.out]; simp [k1]), mkI⟩
            · have e2 : (st == 2) = false := by simpa using s2
              have HR := Lib.hid hRt
              clear hRt
              go_wp2_with (first
                | ((with_reducible refine held ?_); refine H_load_midG 53 _ rfl A 5 rfl (by kernel_rfl) ta.toList _ (hTr _ inferInstance) Tryz.underlying53 rfl hts ?_)
                | ((with_reducible refine held ?_); refine H_buildRunG 53 _ rfl (by kernel_rfl) #[] (by kernel_rfl) _ _ (build_rtrack _) ?_)
                | (go_at_call 109; (with_reducible refine (hS _).mono ?_); rintro e w' ⟨rfl, z2, rfl⟩))
              all_goals go_ret
              all_goals exact ⟨ret_bool (by rw [← HR.out]; simp [k1, s2]), mkI⟩
    case true =>
      by_cases k1 : kd = 1
      · subst k1
        by_cases t00 : ty = 0
        · subst t00
          by_cases l1 : st < 1
          · have n1 : ¬ st = 1 := by omega
            have n2 : ¬ st = 2 := by omega
            have n3 : ¬ (3 ≤ st ∧ st ≤ 7) := by omega
            have n8 : ¬ st = 8 := by omega
            have HR := Lib.hid hRt
            clear hRt
            go_wp2_with (first
              | ((with_reducible refine held ?_); refine H_load_midG 53 _ rfl A 5 rfl (by kernel_rfl) ta.toList _ (hTr _ inferInstance) Tryz.underlying53 rfl hts ?_)
              | ((with_reducible refine held ?_); refine H_buildRunG 53 _ rfl (by kernel_rfl) #[] (by kernel_rfl) _ _ (build_rtrack _) ?_)
              | (go_at_call 109; (with_reducible refine (hS _).mono ?_); rintro e w' ⟨rfl, z2, rfl⟩))
            all_goals go_ret
            all_goals exact ⟨ret_bool (by rw [← HR.out]; simp [n1, n2, n3, n8]), mkI⟩
          have l1' : 1 ≤ st := by omega
          clear l1
          by_cases l9 : 8 < st
          · have n1 : ¬ st = 1 := by omega
            have n2 : ¬ st = 2 := by omega
            have n3 : ¬ (3 ≤ st ∧ st ≤ 7) := by omega
            have n8 : ¬ st = 8 := by omega
            have HR := Lib.hid hRt
            clear hRt
            go_wp2_with (first
              | ((with_reducible refine held ?_); refine H_load_midG 53 _ rfl A 5 rfl (by kernel_rfl) ta.toList _ (hTr _ inferInstance) Tryz.underlying53 rfl hts ?_)
              | ((with_reducible refine held ?_); refine H_buildRunG 53 _ rfl (by kernel_rfl) #[] (by kernel_rfl) _ _ (build_rtrack _) ?_)
              | (go_at_call 109; (with_reducible refine (hS _).mono ?_); rintro e w' ⟨rfl, z2, rfl⟩))
            all_goals go_ret
            all_goals exact ⟨ret_bool (by rw [← HR.out]; simp [n1, n2, n3, n8]), mkI⟩
          have l9' : st ≤ 8 := by omega
          clear l9
          by_cases n1 : st = 1
          · subst n1
            have HR := Lib.hid hRt
            clear hRt
            go_wp2_with (first
              | ((with_reducible refine held ?_); refine H_load_midG 53 _ rfl A 5 rfl (by kernel_rfl) ta.toList _ (hTr _ inferInstance) Tryz.underlying53 rfl hts ?_)
              | ((with_reducible refine held ?_); refine H_buildRunG 53 _ rfl (by kernel_rfl) #[] (by kernel_rfl) _ _ (build_rtrack _) ?_)
              | (go_at_call 109; (with_reducible refine (hS _).mono ?_); rintro e w' ⟨rfl, z2, rfl⟩))
            all_goals go_ret
            all_goals exact ⟨ret_bool (by rw [← HR.out]; rfl), mkI⟩
          by_cases n2 : st = 2
          · subst n2
            have HR := Lib.hid hRt
            clear hRt
            go_wp2_with (first
              | ((with_reducible refine held ?_); refine H_load_midG 53 _ rfl A 5 rfl (by kernel_rfl) ta.toList _ (hTr _ inferInstance) Tryz.underlying53 rfl hts ?_)
              | ((with_reducible refine held ?_); refine H_buildRunG 53 _ rfl (by kernel_rfl) #[] (by kernel_rfl) _ _ (build_rtrack _) ?_)
              | (go_at_call 109; (with_reducible refine (hS _).mono ?_); rintro e w' ⟨rfl, z2, rfl⟩))
            all_goals go_ret
            all_goals exact ⟨ret_bool (by rw [← HR.out]; rfl), mkI⟩
          by_cases n8 : st = 8
          · subst n8
            have HR := Lib.hid hRt
            clear hRt
            go_wp2_with (first
              | ((with_reducible refine held ?_); refine H_load_midG 53 _ rfl A 5 rfl (by kernel_rfl) ta.toList _ (hTr _ inferInstance) Tryz.underlying53 rfl hts ?_)
              | ((with_reducible refine held ?_); refine H_buildRunG 53 _ rfl (by kernel_rfl) #[] (by kernel_rfl) _ _ (build_rtrack _) ?_)
              | (go_at_call 109; (with_reducible refine (hS _).mono ?_); rintro e w' ⟨rfl, z2, rfl⟩))
            all_goals go_ret
            all_goals exact ⟨ret_bool (by rw [← HR.out]; rfl), mkI⟩
          have e1 : (st == 1) = false := by simpa using n1
          have e2 : (st == 2) = false := by simpa using n2
          have e8 : (st == 8) = false := by simpa using n8
          have l3 : 3 ≤ st := by omega
          have l7 : st ≤ 7 := by omega
          have HR := Lib.hid hRt
          clear hRt
          go_wp2_with (first
            | ((with_reducible refine held ?_); refine H_load_midG 53 _ rfl A 5 rfl (by kernel_rfl) ta.toList _ (hTr _ inferInstance) Tryz.underlying53 rfl hts ?_)
            | ((with_reducible refine held ?_); refine H_buildRunG 53 _ rfl (by kernel_rfl) #[] (by kernel_rfl) _ _ (build_rtrack _) ?_)
            | (go_at_call 109; (with_reducible refine (hS _).mono ?_); rintro e w' ⟨rfl, z2, rfl⟩))
          all_goals go_ret
          all_goals exact ⟨ret_bool (by rw [← HR.out]; simp [n1, n2, n8, l3, l7]), mkI⟩
        · have tb : (ty == 0) = false := by simpa using t00
          have HR := Lib.hid hRt
          clear hRt
          go_wp2_with (first
            | ((with_reducible refine held ?_); refine H_load_midG 53 _ rfl A 5 rfl (by kernel_rfl) ta.toList _ (hTr _ inferInstance) Tryz.underlying53 rfl hts ?_)
            | ((with_reducible refine held ?_); refine H_buildRunG 53 _ rfl (by kernel_rfl) #[] (by kernel_rfl) _ _ (build_rtrack _) ?_)
            | (go_at_call 109; (with_reducible refine (hS _).mono ?_); rintro e w' ⟨rfl, z2, rfl⟩))
          all_goals go_ret
          all_goals exact ⟨ret_bool (by rw [← HR.out]; simp [t00]), mkI⟩
      · have kb : (kd == 1) = false := by simpa using k1
        cases SB
        case false =>
          have HR := Lib.hid hRt
          clear hRt
          go_wp2_with (first
            | ((with_reducible refine held ?_); refine H_load_midG 53 _ rfl A 5 rfl (by kernel_rfl) ta.toList _ (hTr _ inferInstance) Tryz.underlying53 rfl hts ?_)
            | ((with_reducible refine held ?_); refine H_buildRunG 53 _ rfl (by kernel_rfl) #[] (by kernel_rfl) _ _ (build_rtrack _) ?_)
            | (go_at_call 109; (with_reducible refine (hS _).mono ?_); rintro e w' ⟨rfl, z2, rfl⟩))
          all_goals go_ret
          all_goals exact ⟨ret_bool (by rw [← HR.out]; simp [k1]), mkI⟩
        case true =>
          cases TZ
          case false =>
            have HR := Lib.hid hRt
            clear hRt
            go_wp2_with (first
              | ((with_reducible refine held ?_); refine H_load_midG 53 _ rfl A 5 rfl (by kernel_rfl) ta.toList _ (hTr _ inferInstance) Tryz.underlying53 rfl hts ?_)
              | ((with_reducible refine held ?_); refine H_buildRunG 53 _ rfl (by kernel_rfl) #[] (by kernel_rfl) _ _ (build_rtrack _) ?_)
              | (go_at_call 109; (with_reducible refine (hS _).mono ?_); rintro e w' ⟨rfl, z2, rfl⟩))
            all_goals go_ret
            all_goals exact ⟨ret_bool (by rw [← HR.out]; simp [k1]), mkI⟩
          case true =>
            by_cases s2 : st = 2
            · subst s2
              have HR := Lib.hid hRt
              clear hRt
              go_wp2_with (first
                | ((with_reducible refine held ?_); refine H_load_midG 53 _ rfl A 5 rfl (by kernel_rfl) ta.toList _ (hTr _ inferInstance) Tryz.underlying53 rfl hts ?_)
                | ((with_reducible refine held ?_); refine H_buildRunG 53 _ rfl (by kernel_rfl) #[] (by kernel_rfl) _ _ (build_rtrack _) ?_)
                | (go_at_call 109; (with_reducible refine (hS _).mono ?_); rintro e w' ⟨rfl, z2, rfl⟩))
              all_goals go_ret
              all_goals exact ⟨ret_bool (by rw [← HR.out]; simp [k1]), mkI⟩
            · have e2 : (st == 2) = false := by simpa using s2
              have HR := Lib.hid hRt
              clear hRt
              go_wp2_with (first
                | ((with_reducible refine held ?_); refine H_load_midG 53 _ rfl A 5 rfl (by kernel_rfl) ta.toList _ (hTr _ inferInstance) Tryz.underlying53 rfl hts ?_)
                | ((with_reducible refine held ?_); refine H_buildRunG 53 _ rfl (by kernel_rfl) #[] (by kernel_rfl) _ _ (build_rtrack _) ?_)
                | (go_at_call 109; (with_reducible refine (hS _).mono ?_); rintro e w' ⟨rfl, z2, rfl⟩))
              all_goals go_ret
              all_goals exact ⟨ret_bool (by rw [← HR.out]; simp [k1, s2]), mkI⟩
set_option maxHeartbeats 16000000 in
set_option maxRecDepth 100000 in
theorem pclass_any (p : Ph) (b : PhB p) (w : World) : Gives Tryz.prog 46 #[.agg p.rarr] w (.int .i64 (if p.right then p.cls else -1)) := by
  have hR := fun W => pright_any p b W
  have hps : (Tryz.prog.info? 55).map (·.size) = some p.rarr.size := rphaseSize
  have a0 : p.rarr[0]? = some (.int .u8 p.kd) := rfl
  have a1 : p.rarr[1]? = some (.int .u8 p.st) := rfl
  have h8 := fun (h : p.right = true) (k : p.kd = 1) => ph_st8 h k
  have h2 := fun (h : p.right = true) (k : ¬ p.kd = 1) => ph_st2 h k
  obtain ⟨b1, b2, b3, b4, b5, b6⟩ := b
  unfold Ph.cls
  generalize p.right = R at *
  generalize p.kd = kd at *
  generalize p.st = st at *
  generalize p.rarr = pa at *
  obtain ⟨CV, hCV⟩ : ∃ CV, (if R then (if kd = 1 then (([0, 0, 0, 1, 2, 2, 2, 3, 4] : List Int)[st.toNat]?).getD 0 else if kd = 2 then 4 + st else 6 + st) else -1) = CV := ⟨_, rfl⟩
  rw [hCV]
  unfold Gives
  go_enter Tryz.func46, Tryz.ntmps46
  go_upto_region 1 with fail
  obtain ⟨A, hA⟩ : ∃ A, w.heap.size = A := ⟨_, rfl⟩
  rw [hA]
  refine wp_letter (fun W => UpI w W ∧ W.heap[A]? = some (.cells pa 55 (0, 0))) ⟨inferInstance, alloc_new hA⟩ ?_
  clear hA
  rintro W ⟨uW, hRw⟩
  haveI := uW
  have c0 := row_cellF hRw 0 _ a0
  have c1 := row_cellF hRw 1 _ a1
  haveI : LtSize A W := ⟨cell_lt c0⟩
  cases R
  case false =>
    have HCV := Lib.hid (show CV = -1 by rw [← hCV]; rfl)
    clear hCV
    go_wp2_with (first
      | ((with_reducible refine held ?_); refine H_load_row rfl 55 _ rfl A rfl 55 pa (0, 0) _ (((upI : Up W _).block A (LtSize.lt (b := A))).trans hRw) Tryz.underlying55 rfl hps ?_)
      | (go_at_call 79; (with_reducible refine (hR _).mono ?_); rintro e w' ⟨rfl, z1, rfl⟩))
    go_ret
    exact ⟨by rw [HCV.out]; rfl, mkI⟩
  case true =>
    by_cases k1 : kd = 1
    · subst k1
      obtain ⟨l1, l2⟩ := h8 rfl rfl
      clear h8 h2
      rcases (by omega : st = 1 ∨ st = 2 ∨ st = 3 ∨ st = 4 ∨ st = 5 ∨ st = 6 ∨ st = 7 ∨ st = 8) with h | h | h | h | h | h | h | h
      all_goals subst h
      · have HCV := Lib.hid (show CV = 0 by rw [← hCV]; rfl)
        clear hCV
        go_wp2_with (first
          | ((with_reducible refine held ?_); refine H_load_row rfl 55 _ rfl A rfl 55 pa (0, 0) _ (((upI : Up W _).block A (LtSize.lt (b := A))).trans hRw) Tryz.underlying55 rfl hps ?_)
          | (go_at_call 79; (with_reducible refine (hR _).mono ?_); rintro e w' ⟨rfl, z1, rfl⟩))
        go_ret
        exact ⟨by rw [HCV.out]; rfl, mkI⟩
      · have HCV := Lib.hid (show CV = 0 by rw [← hCV]; rfl)
        clear hCV
        go_wp2_with (first
          | ((with_reducible refine held ?_); refine H_load_row rfl 55 _ rfl A rfl 55 pa (0, 0) _ (((upI : Up W _).block A (LtSize.lt (b := A))).trans hRw) Tryz.underlying55 rfl hps ?_)
          | (go_at_call 79; (with_reducible refine (hR _).mono ?_); rintro e w' ⟨rfl, z1, rfl⟩))
        go_ret
        exact ⟨by rw [HCV.out]; rfl, mkI⟩
      · have HCV := Lib.hid (show CV = 1 by rw [← hCV]; rfl)
        clear hCV
        go_wp2_with (first
          | ((with_reducible refine held ?_); refine H_load_row rfl 55 _ rfl A rfl 55 pa (0, 0) _ (((upI : Up W _).block A (LtSize.lt (b := A))).trans hRw) Tryz.underlying55 rfl hps ?_)
          | (go_at_call 79; (with_reducible refine (hR _).mono ?_); rintro e w' ⟨rfl, z1, rfl⟩))
        go_ret
        exact ⟨by rw [HCV.out]; rfl, mkI⟩
      · have HCV := Lib.hid (show CV = 2 by rw [← hCV]; rfl)
        clear hCV
        go_wp2_with (first
          | ((with_reducible refine held ?_); refine H_load_row rfl 55 _ rfl A rfl 55 pa (0, 0) _ (((upI : Up W _).block A (LtSize.lt (b := A))).trans hRw) Tryz.underlying55 rfl hps ?_)
          | (go_at_call 79; (with_reducible refine (hR _).mono ?_); rintro e w' ⟨rfl, z1, rfl⟩))
        go_ret
        exact ⟨by rw [HCV.out]; rfl, mkI⟩
      · have HCV := Lib.hid (show CV = 2 by rw [← hCV]; rfl)
        clear hCV
        go_wp2_with (first
          | ((with_reducible refine held ?_); refine H_load_row rfl 55 _ rfl A rfl 55 pa (0, 0) _ (((upI : Up W _).block A (LtSize.lt (b := A))).trans hRw) Tryz.underlying55 rfl hps ?_)
          | (go_at_call 79; (with_reducible refine (hR _).mono ?_); rintro e w' ⟨rfl, z1, rfl⟩))
        go_ret
        exact ⟨by rw [HCV.out]; rfl, mkI⟩
      · have HCV := Lib.hid (show CV = 2 by rw [← hCV]; rfl)
        clear hCV
        go_wp2_with (first
          | ((with_reducible refine held ?_); refine H_load_row rfl 55 _ rfl A rfl 55 pa (0, 0) _ (((upI : Up W _).block A (LtSize.lt (b := A))).trans hRw) Tryz.underlying55 rfl hps ?_)
          | (go_at_call 79; (with_reducible refine (hR _).mono ?_); rintro e w' ⟨rfl, z1, rfl⟩))
        go_ret
        exact ⟨by rw [HCV.out]; rfl, mkI⟩
      · have HCV := Lib.hid (show CV = 3 by rw [← hCV]; rfl)
        clear hCV
        go_wp2_with (first
          | ((with_reducible refine held ?_); refine H_load_row rfl 55 _ rfl A rfl 55 pa (0, 0) _ (((upI : Up W _).block A (LtSize.lt (b := A))).trans hRw) Tryz.underlying55 rfl hps ?_)
          | (go_at_call 79; (with_reducible refine (hR _).mono ?_); rintro e w' ⟨rfl, z1, rfl⟩))
        go_ret
        exact ⟨by rw [HCV.out]; rfl, mkI⟩
      · have HCV := Lib.hid (show CV = 4 by rw [← hCV]; rfl)
        clear hCV
        go_wp2_with (first
          | ((with_reducible refine held ?_); refine H_load_row rfl 55 _ rfl A rfl 55 pa (0, 0) _ (((upI : Up W _).block A (LtSize.lt (b := A))).trans hRw) Tryz.underlying55 rfl hps ?_)
          | (go_at_call 79; (with_reducible refine (hR _).mono ?_); rintro e w' ⟨rfl, z1, rfl⟩))
        go_ret
        exact ⟨by rw [HCV.out]; rfl, mkI⟩
    · have kb : (kd == 1) = false := by simpa using k1
      obtain ⟨ho, hk⟩ := h2 rfl k1
      clear h8 h2
      have m4 : -9223372036854775808 ≤ (4 : Int) + st ∧ (4 : Int) + st ≤ 9223372036854775807 := by rcases ho with h | h <;> omega
      have m6 : -9223372036854775808 ≤ (6 : Int) + st ∧ (6 : Int) + st ≤ 9223372036854775807 := by rcases ho with h | h <;> omega
      obtain ⟨m4a, m4b⟩ := m4
      obtain ⟨m6a, m6b⟩ := m6
      by_cases k2 : kd = 2
      · subst k2
        rcases ho with h | h
        · subst h
          have HCV := Lib.hid (show CV = 5 by rw [← hCV]; rfl)
          clear hCV
          go_wp2_with (first
            | ((with_reducible refine held ?_); refine H_load_row rfl 55 _ rfl A rfl 55 pa (0, 0) _ (((upI : Up W _).block A (LtSize.lt (b := A))).trans hRw) Tryz.underlying55 rfl hps ?_)
            | (go_at_call 79; (with_reducible refine (hR _).mono ?_); rintro e w' ⟨rfl, z1, rfl⟩))
          go_ret
          exact ⟨by rw [HCV.out]; rfl, mkI⟩
        · subst h
          have HCV := Lib.hid (show CV = 6 by rw [← hCV]; rfl)
          clear hCV
          go_wp2_with (first
            | ((with_reducible refine held ?_); refine H_load_row rfl 55 _ rfl A rfl 55 pa (0, 0) _ (((upI : Up W _).block A (LtSize.lt (b := A))).trans hRw) Tryz.underlying55 rfl hps ?_)
            | (go_at_call 79; (with_reducible refine (hR _).mono ?_); rintro e w' ⟨rfl, z1, rfl⟩))
          go_ret
          exact ⟨by rw [HCV.out]; rfl, mkI⟩
      · obtain rfl : kd = 3 := hk.resolve_left k2
        rcases ho with h | h
        · subst h
          have HCV := Lib.hid (show CV = 7 by rw [← hCV]; rfl)
          clear hCV
          go_wp2_with (first
            | ((with_reducible refine held ?_); refine H_load_row rfl 55 _ rfl A rfl 55 pa (0, 0) _ (((upI : Up W _).block A (LtSize.lt (b := A))).trans hRw) Tryz.underlying55 rfl hps ?_)
            | (go_at_call 79; (with_reducible refine (hR _).mono ?_); rintro e w' ⟨rfl, z1, rfl⟩))
          go_ret
          exact ⟨by rw [HCV.out]; rfl, mkI⟩
        · subst h
          have HCV := Lib.hid (show CV = 8 by rw [← hCV]; rfl)
          clear hCV
          go_wp2_with (first
            | ((with_reducible refine held ?_); refine H_load_row rfl 55 _ rfl A rfl 55 pa (0, 0) _ (((upI : Up W _).block A (LtSize.lt (b := A))).trans hRw) Tryz.underlying55 rfl hps ?_)
            | (go_at_call 79; (with_reducible refine (hR _).mono ?_); rintro e w' ⟨rfl, z1, rfl⟩))
          go_ret
          exact ⟨by rw [HCV.out]; rfl, mkI⟩
end Go.Proofs.YteciigbonaecoaaGreatDoor
namespace Go.Ab
open Go.RowKit Go.Proofs.YteciigbonaecoaaGreatDoor
/-- A flow: its key, side, phase, deadline, and what saw it. -/
structure Fl where
  pr : Int
  s : Int
  d : Int
  sp : Int
  dp : Int
  sd : Int
  ph : Ph
  dl : Int
  sn : Int
def Fl.cells (f : Fl) : List Value := [.int .u8 f.pr, .int .u32 f.s, .int .u32 f.d, .int .u16 f.sp, .int .u16 f.dp, .int .u8 f.sd, .int .u8 f.ph.kd, .int .u8 f.ph.st, .int .u8 f.ph.ty, .bool f.ph.rp, .bool f.ph.ss, .bool f.ph.a.sn, .bool f.ph.a.ac, .int .u32 f.ph.a.nx, .int .u32 f.ph.a.ak, .int .i64 f.ph.a.sz, .bool f.ph.b.sn, .bool f.ph.b.ac, .int .u32 f.ph.b.nx, .int .u32 f.ph.b.ak, .int .i64 f.ph.b.sz, .int .i64 f.dl, .int .i64 f.sn]
def Fl.rcells (f : Fl) : List Value := [.int .u8 f.pr, .int .u32 f.s, .int .u32 f.d, .int .u16 f.sp, .int .u16 f.dp, .int .u8 f.sd, .int .u8 f.ph.kd, .int .u8 f.ph.st, .int .u8 f.ph.ty, .bool f.ph.rp, .bool f.ph.ss, .bool f.ph.a.sn, .bool f.ph.a.ac, .int .i64 f.ph.a.nx, .int .i64 f.ph.a.ak, .int .i64 f.ph.a.sz, .bool f.ph.b.sn, .bool f.ph.b.ac, .int .i64 f.ph.b.nx, .int .i64 f.ph.b.ak, .int .i64 f.ph.b.sz, .int .i64 f.dl, .int .i64 f.sn]
theorem Fl.cells_length (f : Fl) : f.cells.length = 23 := rfl
structure TSdB (s : TSd) : Prop where
  n0 : 0 ≤ s.nx
  n1 : s.nx < 4294967296
  k0 : 0 ≤ s.ak
  k1 : s.ak < 4294967296
structure FlB (f : Fl) : Prop where
  p0 : 0 ≤ f.pr
  p1 : f.pr < 256
  s0 : 0 ≤ f.s
  s1 : f.s < 4294967296
  d0 : 0 ≤ f.d
  d1 : f.d < 4294967296
  sp0 : 0 ≤ f.sp
  sp1 : f.sp < 65536
  dp0 : 0 ≤ f.dp
  dp1 : f.dp < 65536
  sd0 : 0 ≤ f.sd
  sd1 : f.sd < 256
  ph : PhB f.ph
  dl0 : -9223372036854775808 ≤ f.dl
  dl1 : f.dl ≤ 9223372036854775807
  sn0 : -9223372036854775808 ≤ f.sn
  sn1 : f.sn ≤ 9223372036854775807
  ta : TSdB f.ph.a
  tb : TSdB f.ph.b
def Fl.ln (f : Fl) (cl : Int) : Ln := ⟨f.pr, f.s, f.d, f.sp, f.dp, f.sd, cl, f.ph.rp, f.ph.ss, f.dl, f.sn⟩
/-- The line of a flow, if there is one. -/
def Fl.of (f : Fl) : Option Ln := if f.ph.right then (if (f.ln f.ph.cls).right then some (f.ln f.ph.cls) else none) else none
def ofE (r : Option Ln) : Int := if r.isSome then 0 else 380
theorem phase_at {W : World} {b o : Nat} {f : Fl} (h : W.rangeAt b o f.cells) : W.rangeAt b (o + 6) f.ph.arr.toList := fun j u hj => by
  have : f.cells[6 + j]? = some u := by
    rw [show f.cells = f.cells.take 6 ++ (f.ph.arr.toList ++ f.cells.drop 21) from rfl, List.getElem?_append_right (by simp [Fl.cells])]
    rw [List.getElem?_append_left (by have := (List.getElem?_eq_some_iff.1 hj).1; simpa [Fl.cells] using this)]
    simpa [Fl.cells] using hj
  rw [Nat.add_assoc]
  exact h _ u this
theorem fkey_at {W : World} {b o : Nat} {f : Fl} (h : W.rangeAt b o f.cells) : W.rangeAt b o [.int .u8 f.pr, .int .u32 f.s, .int .u32 f.d, .int .u16 f.sp, .int .u16 f.dp] := fun j u hj => by
  refine h j u ?_
  have hj5 : j < 5 := (List.getElem?_eq_some_iff.1 hj).1
  rw [show f.cells = [.int .u8 f.pr, .int .u32 f.s, .int .u32 f.d, .int .u16 f.sp, .int .u16 f.dp] ++ f.cells.drop 5 from rfl, List.getElem?_append_left hj5]
  exact hj
theorem lnB_of (f : Fl) (b : FlB f) {cl : Int} (h0 : 0 ≤ cl) (h1 : cl < 256) : LnB (f.ln cl) := ⟨⟨b.p0, b.p1, b.s0, b.s1, b.d0, b.d1, b.sp0, b.sp1, b.dp0, b.dp1⟩, b.sd0, b.sd1, h0, h1, b.dl0, b.dl1, b.sn0, b.sn1⟩
theorem wpList_letter {P : Program} {ops : Array Oper} {Q : Exit → Act → World → Prop} {l : List Oper} {a : Act} {W : World} (p : World → Prop) (hp : p W) (h : ∀ Z, p Z → wpList P ops Q l a Z) : wpList P ops Q l a W := h W hp
end Go.Ab
namespace Go.Proofs.YteciigbonaecoaaGreatDoor
open Go.RowKit Go.Ab
theorem flowSize : (Tryz.prog.info? 42).map (·.size) = some 23 := by kernel_rfl
theorem keySizeF : (Tryz.prog.info? 34).map (·.size) = some 5 := by kernel_rfl
theorem build_lnF (a b c d e f g k l : Int) (p q : Bool) (w : World) : (Instr.build 44 #[(0, .agg #[.int .u8 a, .int .u32 b, .int .u32 c, .int .u16 d, .int .u16 e]), (1, .int .u8 f), (2, .int .u8 g), (3, .bool p), (4, .bool q), (5, .int .i64 k), (6, .int .i64 l)]).run Tryz.prog w = .ok (.agg (Ln.mk a b c d e f g p q k l).cells.toArray) w := by kernel_rfl
theorem build_lnZ (w : World) : (Instr.build 44 #[]).run Tryz.prog w = .ok (.agg Ln.zero.cells.toArray) w := by kernel_rfl
set_option maxHeartbeats 32000000 in
set_option maxRecDepth 100000 in
theorem dof_any (f : Fl) (b : FlB f) (w : World) (g : GoodF w) : Gives Tryz.prog 13 #[.agg f.cells.toArray] w (.tuple #[.agg (f.of.getD Ln.zero).cells.toArray, .int .i64 (ofE f.of)]) := by
  obtain ⟨F, hF⟩ : ∃ F, f.of = F := ⟨_, rfl⟩
  rw [hF]
  have HF0 := Lib.hid hF
  clear hF
  have hC := fun W (h : UpI w W) => aclass_any f.ph b.ph W (g.up h.up)
  obtain ⟨cl, hcl⟩ : ∃ cl, (if f.ph.right then f.ph.cls else 0) = cl := ⟨_, rfl⟩
  have hcb : 0 ≤ cl ∧ cl < 256 := by
    rw [← hcl]
    split
    · rename_i h
      unfold Ph.cls
      split
      · rename_i k
        obtain ⟨h1, h2⟩ := ph_st8 h k
        rcases (by omega : f.ph.st = 1 ∨ f.ph.st = 2 ∨ f.ph.st = 3 ∨ f.ph.st = 4 ∨ f.ph.st = 5 ∨ f.ph.st = 6 ∨ f.ph.st = 7 ∨ f.ph.st = 8) with e | e | e | e | e | e | e | e <;> rw [e] <;> decide
      · rename_i k
        obtain ⟨h1, _⟩ := ph_st2 h k
        split <;> omega
    · omega
  have hB : LnB (f.ln cl) := lnB_of f b hcb.1 hcb.2
  have hRt := fun W => dright_any (f.ln cl) W hB
  obtain ⟨LR, hLR⟩ : ∃ r, (f.ln cl).right = r := ⟨_, rfl⟩
  rw [hLR] at hRt
  obtain ⟨X, hX⟩ : ∃ X, f.ln cl = X := ⟨_, rfl⟩
  rw [hcl] at hC
  obtain ⟨R, hR⟩ : ∃ R, f.ph.right = R := ⟨_, rfl⟩
  rw [hR] at hC
  have HF := Lib.hid (show F = if R && LR then some X else none by
    rw [← HF0.out]
    unfold Fl.of
    rw [hR] at hcl ⊢
    cases R
    · rfl
    · rw [if_pos rfl] at hcl ⊢
      rw [hcl, hX]
      rw [hX] at hLR
      rw [hLR]
      cases LR <;> rfl)
  clear HF0
  have hRt' : ∀ W, Gives Tryz.prog 30 #[.agg X.cells.toArray] W (.bool LR) := fun W => by rw [← hX]; exact hRt W
  have hXe : Ln.mk f.pr f.s f.d f.sp f.dp f.sd cl f.ph.rp f.ph.ss f.dl f.sn = X := hX
  have hbl : ∀ W, (Instr.build 44 #[(0, .agg #[.int .u8 f.pr, .int .u32 f.s, .int .u32 f.d, .int .u16 f.sp, .int .u16 f.dp]), (1, .int .u8 f.sd), (2, .int .u8 cl), (3, .bool f.ph.rp), (4, .bool f.ph.ss), (5, .int .i64 f.dl), (6, .int .i64 f.sn)]).run Tryz.prog W = .ok (.agg X.cells.toArray) W := fun W => by rw [← hXe]; exact build_lnF _ _ _ _ _ _ _ _ _ _ _ W
  have hps : (Tryz.prog.info? 40).map (·.size) = some f.ph.arr.toList.length := phaseSize
  have hphA := fun (W : World) (o : Nat) (h : W.rangeAt o 0 f.cells) => phase_at h
  have hkA := fun (W : World) (o : Nat) (h : W.rangeAt o 0 f.cells) => fkey_at h
  have a5 : f.cells.toArray[5]? = some (.int .u8 f.sd) := rfl
  have a9 : f.cells.toArray[9]? = some (.bool f.ph.rp) := rfl
  have a10 : f.cells.toArray[10]? = some (.bool f.ph.ss) := rfl
  have a21 : f.cells.toArray[21]? = some (.int .i64 f.dl) := rfl
  have a22 : f.cells.toArray[22]? = some (.int .i64 f.sn) := rfl
  clear hX hXe hRt hLR hR hcl hcb hB b
  generalize f.ph.arr = pa at *
  generalize f.cells = fc at *
  generalize f.ph.rp = rp at *
  generalize f.ph.ss = ss at *
  unfold Gives
  go_enter Tryz.func13, Tryz.ntmps13
  go_upto_region 1 with fail
  obtain ⟨A, hA⟩ : ∃ A, w.heap.size = A := ⟨_, rfl⟩
  rw [hA]
  refine wp_letter (fun W => UpI w W ∧ W.heap[A]? = some (.cells fc.toArray 42 (0, 0)) ∧ W.heap[A + 1]? = some (.cells Ln.zero.cells.toArray 44 (0, 0)) ∧ W.heap.size = A + 2)
    ⟨inferInstance, (Below.heap_alloc _ _ _ (by rw [World.size_alloc, hA]; exact Nat.lt_succ_self _)).trans (alloc_new hA), alloc_new (by rw [World.size_alloc, hA]), by rw [World.size_alloc, World.size_alloc, hA]⟩ ?_
  have hwA : w.heap.size ≤ A + 1 := by rw [hA]; exact Nat.le_succ A
  clear hA
  rintro W ⟨uW, hRA, hRB, hS⟩
  haveI := uW
  haveI : LtSize A W := ⟨by omega⟩
  haveI : LtSize (A + 1) W := ⟨by omega⟩
  have hra : W.rangeAt A 0 fc := fun j u hj => by rw [Nat.zero_add]; exact row_cellF hRA j u (by simpa using hj)
  have hPh := hphA W A hra
  rw [Nat.zero_add] at hPh
  have hKy := hkA W A hra
  have c5 := row_cellF hRA 5 _ a5
  have c9 := row_cellF hRA 9 _ a9
  have c10 := row_cellF hRA 10 _ a10
  have c21 := row_cellF hRA 21 _ a21
  have c22 := row_cellF hRA 22 _ a22
  clear hphA hkA hra a5 a9 a10 a21 a22 hS
  go_upto_region 2 with (first
    | ((with_reducible refine held ?_); refine H_load_mid rfl 40 _ rfl A 6 rfl pa.toList _ hPh Tryz.underlying40 rfl hps ?_)
    | (go_at_call 45; (with_reducible refine (hC _ inferInstance).mono ?_); rintro e w' ⟨rfl, z1, rfl⟩))
  have hKy2 : z1.w.rangeAt A 0 [.int .u8 f.pr, .int .u32 f.s, .int .u32 f.d, .int .u16 f.sp, .int .u16 f.dp] := fun j u hj => z1.up.cell_some' (hKy j u hj)
  clear hPh hKy hC
  go_upto_region 3 with (first
    | ((with_reducible refine held ?_); refine H_load_mid rfl 34 _ rfl A 0 rfl [.int .u8 f.pr, .int .u32 f.s, .int .u32 f.d, .int .u16 f.sp, .int .u16 f.dp] _ hKy2 Tryz.underlying34 rfl keySizeF ?_)
    | ((with_reducible refine held ?_); refine H_buildRun rfl 44 _ rfl #[(0, .agg #[.int .u8 f.pr, .int .u32 f.s, .int .u32 f.d, .int .u16 f.sp, .int .u16 f.dp]), (1, .int .u8 f.sd), (2, .int .u8 cl), (3, .bool rp), (4, .bool ss), (5, .int .i64 f.dl), (6, .int .i64 f.sn)] (by kernel_rfl) _ _ (hbl _) ?_)
    | ((with_reducible refine held ?_); refine H_store_row rfl 44 _ _ rfl _ X.cells.toArray rfl rfl 44 _ (alloc_new rfl) lnSize rfl (ln_all X) ?_))
  obtain ⟨E, hE⟩ : ∃ E, z1.w.heap.size = E := ⟨_, rfl⟩
  rw [hE]
  refine wp_letter (fun Z => UpI W Z ∧ Z.heap[E]? = some (.cells X.cells.toArray 44 (0, 0))) ⟨⟨UpI.row hE _⟩, setRow_heap _ _ _ _ _ _ (alloc_new hE)⟩ ?_
  clear hE hKy2 c5 c9 c10 c21 c22 hbl
  rintro Z ⟨uZ, hZE⟩
  haveI := uZ
  haveI : UpI w Z := ⟨uW.up.trans uZ.up⟩
  haveI : LtSize E Z := ⟨(Array.getElem?_eq_some_iff.1 hZE).1⟩
  cases R
  case false =>
    rw [Bool.false_and, if_neg (by decide)] at HF
    go_wp2_with (first
      | ((with_reducible refine held ?_); refine H_buildRun rfl 44 _ rfl #[] (by kernel_rfl) _ _ (build_lnZ _) ?_)
      | ((with_reducible refine held ?_); refine H_store_row rfl 44 _ _ rfl (A + 1) Ln.zero.cells.toArray rfl rfl 44 Ln.zero.cells.toArray (((upI : Up W _).block (A + 1) (LtSize.lt (b := A + 1))).trans hRB) lnSize rfl (ln_all Ln.zero) ?_; refine wpList_letter (fun Z => UpI w Z ∧ Z.heap[A + 1]? = some (.cells Ln.zero.cells.toArray 44 (0, 0))) ⟨⟨up_setRowG (upI : Up w _) hwA _⟩, setRow_heap _ _ _ _ _ _ (((upI : Up W _).block (A + 1) (LtSize.lt (b := A + 1))).trans hRB)⟩ ?_; rintro Z9 ⟨uZ9, hZ9⟩; haveI := uZ9))
    have r0 : Z9.cell? ⟨A + 1, 0, none⟩ = some (.int .u8 Ln.zero.pr) := row_cellF hZ9 0 _ rfl
    have r1 : Z9.cell? ⟨A + 1, 1, none⟩ = some (.int .u32 Ln.zero.s) := row_cellF hZ9 1 _ rfl
    have r2 : Z9.cell? ⟨A + 1, 2, none⟩ = some (.int .u32 Ln.zero.d) := row_cellF hZ9 2 _ rfl
    have r3 : Z9.cell? ⟨A + 1, 3, none⟩ = some (.int .u16 Ln.zero.sp) := row_cellF hZ9 3 _ rfl
    have r4 : Z9.cell? ⟨A + 1, 4, none⟩ = some (.int .u16 Ln.zero.dp) := row_cellF hZ9 4 _ rfl
    have r5 : Z9.cell? ⟨A + 1, 5, none⟩ = some (.int .u8 Ln.zero.sd) := row_cellF hZ9 5 _ rfl
    have r6 : Z9.cell? ⟨A + 1, 6, none⟩ = some (.int .u8 Ln.zero.cl) := row_cellF hZ9 6 _ rfl
    have r7 : Z9.cell? ⟨A + 1, 7, none⟩ = some (.bool Ln.zero.rp) := row_cellF hZ9 7 _ rfl
    have r8 : Z9.cell? ⟨A + 1, 8, none⟩ = some (.bool Ln.zero.ss) := row_cellF hZ9 8 _ rfl
    have r9 : Z9.cell? ⟨A + 1, 9, none⟩ = some (.int .i64 Ln.zero.dl) := row_cellF hZ9 9 _ rfl
    have r10 : Z9.cell? ⟨A + 1, 10, none⟩ = some (.int .i64 Ln.zero.sn) := row_cellF hZ9 10 _ rfl
    exact bodyPost_ret (v := .tuple #[.agg #[.int .u8 Ln.zero.pr, .int .u32 Ln.zero.s, .int .u32 Ln.zero.d, .int .u16 Ln.zero.sp, .int .u16 Ln.zero.dp, .int .u8 Ln.zero.sd, .int .u8 Ln.zero.cl, .bool Ln.zero.rp, .bool Ln.zero.ss, .int .i64 Ln.zero.dl, .int .i64 Ln.zero.sn], .int .i64 380]) (by simp [results, Tryz.results13, go_sem, r0, r1, r2, r3, r4, r5, r6, r7, r8, r9, r10]) rfl ⟨by rw [HF.out]; rfl, mkI⟩
  case true =>
    rw [Bool.true_and] at HF
    cases LR
    case false =>
      rw [if_neg (by decide)] at HF
      go_wp2_with (first
        | ((with_reducible refine held ?_); refine H_load_rowG 44 _ rfl E rfl (by kernel_rfl) 44 X.cells.toArray (0, 0) _ (((upI : Up Z _).block E (LtSize.lt (b := E))).trans hZE) Tryz.underlying44 rfl lnSize ?_)
        | (go_at_call 30; (with_reducible refine (hRt' _).mono ?_); rintro e w' ⟨rfl, z3, rfl⟩)
        | ((with_reducible refine held ?_); refine H_buildRun rfl 44 _ rfl #[] (by kernel_rfl) _ _ (build_lnZ _) ?_)
        | ((with_reducible refine held ?_); refine H_store_row rfl 44 _ _ rfl (A + 1) Ln.zero.cells.toArray rfl rfl 44 Ln.zero.cells.toArray (((upI : Up W _).block (A + 1) (LtSize.lt (b := A + 1))).trans hRB) lnSize rfl (ln_all Ln.zero) ?_; refine wpList_letter (fun Z => UpI w Z ∧ Z.heap[A + 1]? = some (.cells Ln.zero.cells.toArray 44 (0, 0))) ⟨⟨up_setRowG (upI : Up w _) hwA _⟩, setRow_heap _ _ _ _ _ _ (((upI : Up W _).block (A + 1) (LtSize.lt (b := A + 1))).trans hRB)⟩ ?_; rintro Z9 ⟨uZ9, hZ9⟩; haveI := uZ9))
      have r0 : Z9.cell? ⟨A + 1, 0, none⟩ = some (.int .u8 Ln.zero.pr) := row_cellF hZ9 0 _ rfl
      have r1 : Z9.cell? ⟨A + 1, 1, none⟩ = some (.int .u32 Ln.zero.s) := row_cellF hZ9 1 _ rfl
      have r2 : Z9.cell? ⟨A + 1, 2, none⟩ = some (.int .u32 Ln.zero.d) := row_cellF hZ9 2 _ rfl
      have r3 : Z9.cell? ⟨A + 1, 3, none⟩ = some (.int .u16 Ln.zero.sp) := row_cellF hZ9 3 _ rfl
      have r4 : Z9.cell? ⟨A + 1, 4, none⟩ = some (.int .u16 Ln.zero.dp) := row_cellF hZ9 4 _ rfl
      have r5 : Z9.cell? ⟨A + 1, 5, none⟩ = some (.int .u8 Ln.zero.sd) := row_cellF hZ9 5 _ rfl
      have r6 : Z9.cell? ⟨A + 1, 6, none⟩ = some (.int .u8 Ln.zero.cl) := row_cellF hZ9 6 _ rfl
      have r7 : Z9.cell? ⟨A + 1, 7, none⟩ = some (.bool Ln.zero.rp) := row_cellF hZ9 7 _ rfl
      have r8 : Z9.cell? ⟨A + 1, 8, none⟩ = some (.bool Ln.zero.ss) := row_cellF hZ9 8 _ rfl
      have r9 : Z9.cell? ⟨A + 1, 9, none⟩ = some (.int .i64 Ln.zero.dl) := row_cellF hZ9 9 _ rfl
      have r10 : Z9.cell? ⟨A + 1, 10, none⟩ = some (.int .i64 Ln.zero.sn) := row_cellF hZ9 10 _ rfl
      exact bodyPost_ret (v := .tuple #[.agg #[.int .u8 Ln.zero.pr, .int .u32 Ln.zero.s, .int .u32 Ln.zero.d, .int .u16 Ln.zero.sp, .int .u16 Ln.zero.dp, .int .u8 Ln.zero.sd, .int .u8 Ln.zero.cl, .bool Ln.zero.rp, .bool Ln.zero.ss, .int .i64 Ln.zero.dl, .int .i64 Ln.zero.sn], .int .i64 380]) (by simp [results, Tryz.results13, go_sem, r0, r1, r2, r3, r4, r5, r6, r7, r8, r9, r10]) rfl ⟨by rw [HF.out]; rfl, mkI⟩
    case true =>
      rw [if_pos rfl] at HF
      go_wp2_with (first
        | ((with_reducible refine held ?_); refine H_load_rowG 44 _ rfl E rfl (by kernel_rfl) 44 X.cells.toArray (0, 0) _ (((upI : Up Z _).block E (LtSize.lt (b := E))).trans hZE) Tryz.underlying44 rfl lnSize ?_)
        | (go_at_call 30; (with_reducible refine (hRt' _).mono ?_); rintro e w' ⟨rfl, z3, rfl⟩)
        | ((with_reducible refine held ?_); refine H_store_row rfl 44 _ _ rfl (A + 1) X.cells.toArray rfl rfl 44 Ln.zero.cells.toArray (((upI : Up W _).block (A + 1) (LtSize.lt (b := A + 1))).trans hRB) lnSize rfl (ln_all X) ?_; refine wpList_letter (fun Z => UpI w Z ∧ Z.heap[A + 1]? = some (.cells X.cells.toArray 44 (0, 0))) ⟨⟨up_setRowG (upI : Up w _) hwA _⟩, setRow_heap _ _ _ _ _ _ (((upI : Up W _).block (A + 1) (LtSize.lt (b := A + 1))).trans hRB)⟩ ?_; rintro Z9 ⟨uZ9, hZ9⟩; haveI := uZ9))
      have r0 : Z9.cell? ⟨A + 1, 0, none⟩ = some (.int .u8 X.pr) := row_cellF hZ9 0 _ rfl
      have r1 : Z9.cell? ⟨A + 1, 1, none⟩ = some (.int .u32 X.s) := row_cellF hZ9 1 _ rfl
      have r2 : Z9.cell? ⟨A + 1, 2, none⟩ = some (.int .u32 X.d) := row_cellF hZ9 2 _ rfl
      have r3 : Z9.cell? ⟨A + 1, 3, none⟩ = some (.int .u16 X.sp) := row_cellF hZ9 3 _ rfl
      have r4 : Z9.cell? ⟨A + 1, 4, none⟩ = some (.int .u16 X.dp) := row_cellF hZ9 4 _ rfl
      have r5 : Z9.cell? ⟨A + 1, 5, none⟩ = some (.int .u8 X.sd) := row_cellF hZ9 5 _ rfl
      have r6 : Z9.cell? ⟨A + 1, 6, none⟩ = some (.int .u8 X.cl) := row_cellF hZ9 6 _ rfl
      have r7 : Z9.cell? ⟨A + 1, 7, none⟩ = some (.bool X.rp) := row_cellF hZ9 7 _ rfl
      have r8 : Z9.cell? ⟨A + 1, 8, none⟩ = some (.bool X.ss) := row_cellF hZ9 8 _ rfl
      have r9 : Z9.cell? ⟨A + 1, 9, none⟩ = some (.int .i64 X.dl) := row_cellF hZ9 9 _ rfl
      have r10 : Z9.cell? ⟨A + 1, 10, none⟩ = some (.int .i64 X.sn) := row_cellF hZ9 10 _ rfl
      exact bodyPost_ret (v := .tuple #[.agg #[.int .u8 X.pr, .int .u32 X.s, .int .u32 X.d, .int .u16 X.sp, .int .u16 X.dp, .int .u8 X.sd, .int .u8 X.cl, .bool X.rp, .bool X.ss, .int .i64 X.dl, .int .i64 X.sn], .int .i64 0]) (by simp [results, Tryz.results13, go_sem, r0, r1, r2, r3, r4, r5, r6, r7, r8, r9, r10]) rfl ⟨by rw [HF.out]; rfl, mkI⟩
end Go.Proofs.YteciigbonaecoaaGreatDoor
namespace Go.Ab
open Go.RowKit Go.Proofs.YteciigbonaecoaaGreatDoor
theorem ph_ok {p : Ph} (h : p.right = true) : (p.rp || !p.ss) = true := by
  unfold Ph.right at h
  cases hs : (p.ss && !p.rp) with
  | true => rw [hs, if_pos rfl] at h; cases h
  | false => revert hs; cases p.ss <;> cases p.rp <;> simp
theorem cls_b {p : Ph} (h : p.right = true) : 0 ≤ p.cls ∧ p.cls < 9 := by
  unfold Ph.cls
  split
  · rename_i k
    obtain ⟨h1, h2⟩ := ph_st8 h k
    rcases (by omega : p.st = 1 ∨ p.st = 2 ∨ p.st = 3 ∨ p.st = 4 ∨ p.st = 5 ∨ p.st = 6 ∨ p.st = 7 ∨ p.st = 8) with e | e | e | e | e | e | e | e <;> rw [e] <;> decide
  · rename_i k
    obtain ⟨h1, _⟩ := ph_st2 h k
    split <;> omega
theorem of_eq (f : Fl) : f.of = if decide (f.sd ≤ 1) && (f.ph.right && (decide (0 ≤ f.dl) && decide (0 ≤ f.sn))) then some (f.ln f.ph.cls) else none := by
  unfold Fl.of
  cases hr : f.ph.right with
  | false => simp
  | true =>
    rw [if_pos rfl]
    have h1 := cls_b hr
    have h2 := ph_ok hr
    have : (f.ln f.ph.cls).right = (decide (f.sd ≤ 1) && (true && (decide (0 ≤ f.dl) && decide (0 ≤ f.sn)))) := by
      unfold Ln.right Fl.ln
      dsimp only
      rw [decide_eq_true h1.2, h2]
      cases decide (f.sd ≤ 1) <;> cases decide (0 ≤ f.dl) <;> cases decide (0 ≤ f.sn) <;> rfl
    rw [this]
theorem rphase_at {W : World} {b o : Nat} {f : Fl} (h : W.rangeAt b o f.rcells) : W.rangeAt b (o + 6) f.ph.rarr.toList := fun j u hj => by
  have : f.rcells[6 + j]? = some u := by
    rw [show f.rcells = f.rcells.take 6 ++ (f.ph.rarr.toList ++ f.rcells.drop 21) from rfl, List.getElem?_append_right (by simp [Fl.rcells])]
    rw [List.getElem?_append_left (by have := (List.getElem?_eq_some_iff.1 hj).1; simpa [Fl.rcells] using this)]
    simpa [Fl.rcells] using hj
  rw [Nat.add_assoc]
  exact h _ u this
theorem rfkey_at {W : World} {b o : Nat} {f : Fl} (h : W.rangeAt b o f.rcells) : W.rangeAt b o [.int .u8 f.pr, .int .u32 f.s, .int .u32 f.d, .int .u16 f.sp, .int .u16 f.dp] := fun j u hj => by
  refine h j u ?_
  have hj5 : j < 5 := (List.getElem?_eq_some_iff.1 hj).1
  rw [show f.rcells = [.int .u8 f.pr, .int .u32 f.s, .int .u32 f.d, .int .u16 f.sp, .int .u16 f.dp] ++ f.rcells.drop 5 from rfl, List.getElem?_append_left hj5]
  exact hj
end Go.Ab
namespace Go.Proofs.YteciigbonaecoaaGreatDoor
open Go.RowKit Go.Ab
theorem build_rlnF (a b c d e f g k l : Int) (p q : Bool) (w : World) : (Instr.build 47 #[(0, .agg #[.int .u8 a, .int .u32 b, .int .u32 c, .int .u16 d, .int .u16 e]), (1, .int .u8 f), (2, .int .u8 g), (3, .bool p), (4, .bool q), (5, .int .i64 k), (6, .int .i64 l)]).run Tryz.prog w = .ok (.agg (Ln.mk a b c d e f g p q k l).cells.toArray) w := by kernel_rfl
theorem rlnSizeF : (Tryz.prog.info? 47).map (·.size) = some 11 := by kernel_rfl
set_option maxHeartbeats 32000000 in
set_option maxRecDepth 100000 in
theorem rof_any (f : Fl) (b : FlB f) (w : World) : Gives Tryz.prog 14 #[.agg f.rcells.toArray] w (.tuple #[.agg (f.of.getD Ln.zero).cells.toArray, .int .i64 (ofE f.of)]) := by
  obtain ⟨F, hF⟩ : ∃ F, f.of = F := ⟨_, rfl⟩
  rw [hF]
  rw [of_eq] at hF
  have HF0 := Lib.hid hF
  clear hF
  have hC := fun W => pclass_any f.ph b.ph W
  obtain ⟨cl, hcl⟩ : ∃ cl, (if f.ph.right then f.ph.cls else -1) = cl := ⟨_, rfl⟩
  rw [hcl] at hC
  have hcb : f.ph.right = true → 0 ≤ cl ∧ cl < 9 ∧ f.ph.cls = cl := fun h => by
    rw [h, if_pos rfl] at hcl
    have := cls_b h
    rw [← hcl]; exact ⟨this.1, this.2, rfl⟩
  have hcn : f.ph.right = false → cl = -1 := fun h => by rw [h] at hcl; rw [← hcl]; rfl
  have hbl : ∀ W, (Instr.build 47 #[(0, .agg #[.int .u8 f.pr, .int .u32 f.s, .int .u32 f.d, .int .u16 f.sp, .int .u16 f.dp]), (1, .int .u8 f.sd), (2, .int .u8 cl), (3, .bool f.ph.rp), (4, .bool f.ph.ss), (5, .int .i64 f.dl), (6, .int .i64 f.sn)]).run Tryz.prog W = .ok (.agg (f.ln cl).cells.toArray) W := fun W => build_rlnF _ _ _ _ _ _ _ _ _ _ _ W
  have hps : (Tryz.prog.info? 55).map (·.size) = some f.ph.rarr.toList.length := rphaseSize
  have hphA := fun (W : World) (o : Nat) (h : W.rangeAt o 0 f.rcells) => rphase_at h
  have hkA := fun (W : World) (o : Nat) (h : W.rangeAt o 0 f.rcells) => rfkey_at h
  have a5 : f.rcells.toArray[5]? = some (.int .u8 f.sd) := rfl
  have a9 : f.rcells.toArray[9]? = some (.bool f.ph.rp) := rfl
  have a10 : f.rcells.toArray[10]? = some (.bool f.ph.ss) := rfl
  have a21 : f.rcells.toArray[21]? = some (.int .i64 f.dl) := rfl
  have a22 : f.rcells.toArray[22]? = some (.int .i64 f.sn) := rfl
  obtain ⟨R, hR⟩ : ∃ R, f.ph.right = R := ⟨_, rfl⟩
  rw [hR] at hcb hcn
  have HF := Lib.hid (show F = if decide (f.sd ≤ 1) && (R && (decide (0 ≤ f.dl) && decide (0 ≤ f.sn))) then some (f.ln f.ph.cls) else none by rw [← HF0.out, hR])
  have b5 := b.sd0
  clear HF0 hcl hR b
  have HCB := Lib.hid hcb; have HCN := Lib.hid hcn
  clear hcb hcn
  generalize f.ph.rarr = pa at *
  generalize f.rcells = fc at *
  unfold Gives
  go_enter Tryz.func14, Tryz.ntmps14
  go_upto_region 1 with fail
  obtain ⟨A, hA⟩ : ∃ A, w.heap.size = A := ⟨_, rfl⟩
  rw [hA]
  refine wp_letter (fun W => UpI w W ∧ W.heap[A]? = some (.cells fc.toArray 57 (0, 0)) ∧ W.heap[A + 1]? = some (.cells Ln.zero.cells.toArray 47 (0, 0)) ∧ W.heap.size = A + 2)
    ⟨inferInstance, (Below.heap_alloc _ _ _ (by rw [World.size_alloc, hA]; exact Nat.lt_succ_self _)).trans (alloc_new hA), alloc_new (by rw [World.size_alloc, hA]), by rw [World.size_alloc, World.size_alloc, hA]⟩ ?_
  have hwA : w.heap.size ≤ A + 1 := by rw [hA]; exact Nat.le_succ A
  clear hA
  rintro W ⟨uW, hRA, hRB, hS⟩
  haveI := uW
  haveI : LtSize A W := ⟨by omega⟩
  haveI : LtSize (A + 1) W := ⟨by omega⟩
  have hra : W.rangeAt A 0 fc := fun j u hj => by rw [Nat.zero_add]; exact row_cellF hRA j u (by simpa using hj)
  have hPh := hphA W A hra
  rw [Nat.zero_add] at hPh
  have hKy := hkA W A hra
  have c5 := row_cellF hRA 5 _ a5
  have c9 := row_cellF hRA 9 _ a9
  have c10 := row_cellF hRA 10 _ a10
  have c21 := row_cellF hRA 21 _ a21
  have c22 := row_cellF hRA 22 _ a22
  clear hphA hkA hra a5 a9 a10 a21 a22 hS
  go_upto_region 2 with (first
    | ((with_reducible refine held ?_); refine H_load_mid rfl 55 _ rfl A 6 rfl pa.toList _ hPh Tryz.underlying55 rfl hps ?_)
    | (go_at_call 46; (with_reducible refine (hC _).mono ?_); rintro e w' ⟨rfl, z1, rfl⟩))
  have hKy2 : z1.w.rangeAt A 0 [.int .u8 f.pr, .int .u32 f.s, .int .u32 f.d, .int .u16 f.sp, .int .u16 f.dp] := fun j u hj => z1.up.cell_some' (hKy j u hj)
  clear hPh hKy hC
  by_cases q1 : 1 < f.sd
  · have e1 : decide (f.sd ≤ 1) = false := decide_eq_false (by omega)
    rw [e1, Bool.false_and, if_neg (by decide)] at HF
    go_wp2_with (first
      | ((with_reducible refine held ?_); refine H_buildRun rfl 47 _ rfl #[] (by kernel_rfl) _ _ (build_rzero _) ?_)
      | ((with_reducible refine held ?_); refine H_store_row rfl 47 _ _ rfl (A + 1) Ln.zero.cells.toArray rfl rfl 47 Ln.zero.cells.toArray (((upI : Up W _).block (A + 1) (LtSize.lt (b := A + 1))).trans hRB) rlnSizeF rfl (ln_all Ln.zero) ?_; refine wpList_letter (fun Z => UpI w Z ∧ Z.heap[A + 1]? = some (.cells Ln.zero.cells.toArray 47 (0, 0))) ⟨⟨up_setRowG (upI : Up w _) hwA _⟩, setRow_heap _ _ _ _ _ _ (((upI : Up W _).block (A + 1) (LtSize.lt (b := A + 1))).trans hRB)⟩ ?_; rintro Z9 ⟨uZ9, hZ9⟩; haveI := uZ9))
    have r0 : Z9.cell? ⟨A + 1, 0, none⟩ = some (.int .u8 Ln.zero.pr) := row_cellF hZ9 0 _ rfl
    have r1 : Z9.cell? ⟨A + 1, 1, none⟩ = some (.int .u32 Ln.zero.s) := row_cellF hZ9 1 _ rfl
    have r2 : Z9.cell? ⟨A + 1, 2, none⟩ = some (.int .u32 Ln.zero.d) := row_cellF hZ9 2 _ rfl
    have r3 : Z9.cell? ⟨A + 1, 3, none⟩ = some (.int .u16 Ln.zero.sp) := row_cellF hZ9 3 _ rfl
    have r4 : Z9.cell? ⟨A + 1, 4, none⟩ = some (.int .u16 Ln.zero.dp) := row_cellF hZ9 4 _ rfl
    have r5 : Z9.cell? ⟨A + 1, 5, none⟩ = some (.int .u8 Ln.zero.sd) := row_cellF hZ9 5 _ rfl
    have r6 : Z9.cell? ⟨A + 1, 6, none⟩ = some (.int .u8 Ln.zero.cl) := row_cellF hZ9 6 _ rfl
    have r7 : Z9.cell? ⟨A + 1, 7, none⟩ = some (.bool Ln.zero.rp) := row_cellF hZ9 7 _ rfl
    have r8 : Z9.cell? ⟨A + 1, 8, none⟩ = some (.bool Ln.zero.ss) := row_cellF hZ9 8 _ rfl
    have r9 : Z9.cell? ⟨A + 1, 9, none⟩ = some (.int .i64 Ln.zero.dl) := row_cellF hZ9 9 _ rfl
    have r10 : Z9.cell? ⟨A + 1, 10, none⟩ = some (.int .i64 Ln.zero.sn) := row_cellF hZ9 10 _ rfl
    exact bodyPost_ret (v := .tuple #[.agg #[.int .u8 Ln.zero.pr, .int .u32 Ln.zero.s, .int .u32 Ln.zero.d, .int .u16 Ln.zero.sp, .int .u16 Ln.zero.dp, .int .u8 Ln.zero.sd, .int .u8 Ln.zero.cl, .bool Ln.zero.rp, .bool Ln.zero.ss, .int .i64 Ln.zero.dl, .int .i64 Ln.zero.sn], .int .i64 380]) (by simp [results, Tryz.results14, go_sem, r0, r1, r2, r3, r4, r5, r6, r7, r8, r9, r10]) rfl ⟨by rw [HF.out]; rfl, mkI⟩
  have e1 : decide (f.sd ≤ 1) = true := decide_eq_true (by omega)
  have q1' : f.sd ≤ 1 := by omega
  rw [e1, Bool.true_and] at HF
  clear e1 q1
  cases R
  case false =>
    rw [Bool.false_and, if_neg (by decide)] at HF
    obtain rfl := HCN.out rfl
    go_wp2_with (first
      | ((with_reducible refine held ?_); refine H_buildRun rfl 47 _ rfl #[] (by kernel_rfl) _ _ (build_rzero _) ?_)
      | ((with_reducible refine held ?_); refine H_store_row rfl 47 _ _ rfl (A + 1) Ln.zero.cells.toArray rfl rfl 47 Ln.zero.cells.toArray (((upI : Up W _).block (A + 1) (LtSize.lt (b := A + 1))).trans hRB) rlnSizeF rfl (ln_all Ln.zero) ?_; refine wpList_letter (fun Z => UpI w Z ∧ Z.heap[A + 1]? = some (.cells Ln.zero.cells.toArray 47 (0, 0))) ⟨⟨up_setRowG (upI : Up w _) hwA _⟩, setRow_heap _ _ _ _ _ _ (((upI : Up W _).block (A + 1) (LtSize.lt (b := A + 1))).trans hRB)⟩ ?_; rintro Z9 ⟨uZ9, hZ9⟩; haveI := uZ9))
    have r0 : Z9.cell? ⟨A + 1, 0, none⟩ = some (.int .u8 Ln.zero.pr) := row_cellF hZ9 0 _ rfl
    have r1 : Z9.cell? ⟨A + 1, 1, none⟩ = some (.int .u32 Ln.zero.s) := row_cellF hZ9 1 _ rfl
    have r2 : Z9.cell? ⟨A + 1, 2, none⟩ = some (.int .u32 Ln.zero.d) := row_cellF hZ9 2 _ rfl
    have r3 : Z9.cell? ⟨A + 1, 3, none⟩ = some (.int .u16 Ln.zero.sp) := row_cellF hZ9 3 _ rfl
    have r4 : Z9.cell? ⟨A + 1, 4, none⟩ = some (.int .u16 Ln.zero.dp) := row_cellF hZ9 4 _ rfl
    have r5 : Z9.cell? ⟨A + 1, 5, none⟩ = some (.int .u8 Ln.zero.sd) := row_cellF hZ9 5 _ rfl
    have r6 : Z9.cell? ⟨A + 1, 6, none⟩ = some (.int .u8 Ln.zero.cl) := row_cellF hZ9 6 _ rfl
    have r7 : Z9.cell? ⟨A + 1, 7, none⟩ = some (.bool Ln.zero.rp) := row_cellF hZ9 7 _ rfl
    have r8 : Z9.cell? ⟨A + 1, 8, none⟩ = some (.bool Ln.zero.ss) := row_cellF hZ9 8 _ rfl
    have r9 : Z9.cell? ⟨A + 1, 9, none⟩ = some (.int .i64 Ln.zero.dl) := row_cellF hZ9 9 _ rfl
    have r10 : Z9.cell? ⟨A + 1, 10, none⟩ = some (.int .i64 Ln.zero.sn) := row_cellF hZ9 10 _ rfl
    exact bodyPost_ret (v := .tuple #[.agg #[.int .u8 Ln.zero.pr, .int .u32 Ln.zero.s, .int .u32 Ln.zero.d, .int .u16 Ln.zero.sp, .int .u16 Ln.zero.dp, .int .u8 Ln.zero.sd, .int .u8 Ln.zero.cl, .bool Ln.zero.rp, .bool Ln.zero.ss, .int .i64 Ln.zero.dl, .int .i64 Ln.zero.sn], .int .i64 380]) (by simp [results, Tryz.results14, go_sem, r0, r1, r2, r3, r4, r5, r6, r7, r8, r9, r10]) rfl ⟨by rw [HF.out]; rfl, mkI⟩
  case true =>
    obtain ⟨l0, l9, hce⟩ := HCB.out rfl
    rw [Bool.true_and, hce] at HF
    by_cases q2 : f.dl < 0
    · have e1 : decide (0 ≤ f.dl) = false := decide_eq_false (by omega)
      rw [e1, Bool.false_and, if_neg (by decide)] at HF
      go_wp2_with (first
        | ((with_reducible refine held ?_); refine H_buildRun rfl 47 _ rfl #[] (by kernel_rfl) _ _ (build_rzero _) ?_)
        | ((with_reducible refine held ?_); refine H_store_row rfl 47 _ _ rfl (A + 1) Ln.zero.cells.toArray rfl rfl 47 Ln.zero.cells.toArray (((upI : Up W _).block (A + 1) (LtSize.lt (b := A + 1))).trans hRB) rlnSizeF rfl (ln_all Ln.zero) ?_; refine wpList_letter (fun Z => UpI w Z ∧ Z.heap[A + 1]? = some (.cells Ln.zero.cells.toArray 47 (0, 0))) ⟨⟨up_setRowG (upI : Up w _) hwA _⟩, setRow_heap _ _ _ _ _ _ (((upI : Up W _).block (A + 1) (LtSize.lt (b := A + 1))).trans hRB)⟩ ?_; rintro Z9 ⟨uZ9, hZ9⟩; haveI := uZ9))
      have r0 : Z9.cell? ⟨A + 1, 0, none⟩ = some (.int .u8 Ln.zero.pr) := row_cellF hZ9 0 _ rfl
      have r1 : Z9.cell? ⟨A + 1, 1, none⟩ = some (.int .u32 Ln.zero.s) := row_cellF hZ9 1 _ rfl
      have r2 : Z9.cell? ⟨A + 1, 2, none⟩ = some (.int .u32 Ln.zero.d) := row_cellF hZ9 2 _ rfl
      have r3 : Z9.cell? ⟨A + 1, 3, none⟩ = some (.int .u16 Ln.zero.sp) := row_cellF hZ9 3 _ rfl
      have r4 : Z9.cell? ⟨A + 1, 4, none⟩ = some (.int .u16 Ln.zero.dp) := row_cellF hZ9 4 _ rfl
      have r5 : Z9.cell? ⟨A + 1, 5, none⟩ = some (.int .u8 Ln.zero.sd) := row_cellF hZ9 5 _ rfl
      have r6 : Z9.cell? ⟨A + 1, 6, none⟩ = some (.int .u8 Ln.zero.cl) := row_cellF hZ9 6 _ rfl
      have r7 : Z9.cell? ⟨A + 1, 7, none⟩ = some (.bool Ln.zero.rp) := row_cellF hZ9 7 _ rfl
      have r8 : Z9.cell? ⟨A + 1, 8, none⟩ = some (.bool Ln.zero.ss) := row_cellF hZ9 8 _ rfl
      have r9 : Z9.cell? ⟨A + 1, 9, none⟩ = some (.int .i64 Ln.zero.dl) := row_cellF hZ9 9 _ rfl
      have r10 : Z9.cell? ⟨A + 1, 10, none⟩ = some (.int .i64 Ln.zero.sn) := row_cellF hZ9 10 _ rfl
      exact bodyPost_ret (v := .tuple #[.agg #[.int .u8 Ln.zero.pr, .int .u32 Ln.zero.s, .int .u32 Ln.zero.d, .int .u16 Ln.zero.sp, .int .u16 Ln.zero.dp, .int .u8 Ln.zero.sd, .int .u8 Ln.zero.cl, .bool Ln.zero.rp, .bool Ln.zero.ss, .int .i64 Ln.zero.dl, .int .i64 Ln.zero.sn], .int .i64 380]) (by simp [results, Tryz.results14, go_sem, r0, r1, r2, r3, r4, r5, r6, r7, r8, r9, r10]) rfl ⟨by rw [HF.out]; rfl, mkI⟩
    have e1 : decide (0 ≤ f.dl) = true := decide_eq_true (by omega)
    have q2' : 0 ≤ f.dl := by omega
    rw [e1, Bool.true_and] at HF
    clear e1 q2
    by_cases q3 : f.sn < 0
    · have e1 : decide (0 ≤ f.sn) = false := decide_eq_false (by omega)
      rw [e1, if_neg (by decide)] at HF
      go_wp2_with (first
        | ((with_reducible refine held ?_); refine H_buildRun rfl 47 _ rfl #[] (by kernel_rfl) _ _ (build_rzero _) ?_)
        | ((with_reducible refine held ?_); refine H_store_row rfl 47 _ _ rfl (A + 1) Ln.zero.cells.toArray rfl rfl 47 Ln.zero.cells.toArray (((upI : Up W _).block (A + 1) (LtSize.lt (b := A + 1))).trans hRB) rlnSizeF rfl (ln_all Ln.zero) ?_; refine wpList_letter (fun Z => UpI w Z ∧ Z.heap[A + 1]? = some (.cells Ln.zero.cells.toArray 47 (0, 0))) ⟨⟨up_setRowG (upI : Up w _) hwA _⟩, setRow_heap _ _ _ _ _ _ (((upI : Up W _).block (A + 1) (LtSize.lt (b := A + 1))).trans hRB)⟩ ?_; rintro Z9 ⟨uZ9, hZ9⟩; haveI := uZ9))
      have r0 : Z9.cell? ⟨A + 1, 0, none⟩ = some (.int .u8 Ln.zero.pr) := row_cellF hZ9 0 _ rfl
      have r1 : Z9.cell? ⟨A + 1, 1, none⟩ = some (.int .u32 Ln.zero.s) := row_cellF hZ9 1 _ rfl
      have r2 : Z9.cell? ⟨A + 1, 2, none⟩ = some (.int .u32 Ln.zero.d) := row_cellF hZ9 2 _ rfl
      have r3 : Z9.cell? ⟨A + 1, 3, none⟩ = some (.int .u16 Ln.zero.sp) := row_cellF hZ9 3 _ rfl
      have r4 : Z9.cell? ⟨A + 1, 4, none⟩ = some (.int .u16 Ln.zero.dp) := row_cellF hZ9 4 _ rfl
      have r5 : Z9.cell? ⟨A + 1, 5, none⟩ = some (.int .u8 Ln.zero.sd) := row_cellF hZ9 5 _ rfl
      have r6 : Z9.cell? ⟨A + 1, 6, none⟩ = some (.int .u8 Ln.zero.cl) := row_cellF hZ9 6 _ rfl
      have r7 : Z9.cell? ⟨A + 1, 7, none⟩ = some (.bool Ln.zero.rp) := row_cellF hZ9 7 _ rfl
      have r8 : Z9.cell? ⟨A + 1, 8, none⟩ = some (.bool Ln.zero.ss) := row_cellF hZ9 8 _ rfl
      have r9 : Z9.cell? ⟨A + 1, 9, none⟩ = some (.int .i64 Ln.zero.dl) := row_cellF hZ9 9 _ rfl
      have r10 : Z9.cell? ⟨A + 1, 10, none⟩ = some (.int .i64 Ln.zero.sn) := row_cellF hZ9 10 _ rfl
      exact bodyPost_ret (v := .tuple #[.agg #[.int .u8 Ln.zero.pr, .int .u32 Ln.zero.s, .int .u32 Ln.zero.d, .int .u16 Ln.zero.sp, .int .u16 Ln.zero.dp, .int .u8 Ln.zero.sd, .int .u8 Ln.zero.cl, .bool Ln.zero.rp, .bool Ln.zero.ss, .int .i64 Ln.zero.dl, .int .i64 Ln.zero.sn], .int .i64 380]) (by simp [results, Tryz.results14, go_sem, r0, r1, r2, r3, r4, r5, r6, r7, r8, r9, r10]) rfl ⟨by rw [HF.out]; rfl, mkI⟩
    have e1 : decide (0 ≤ f.sn) = true := decide_eq_true (by omega)
    have q3' : 0 ≤ f.sn := by omega
    rw [e1, if_pos rfl] at HF
    clear e1 q3 hce
    have w8 : IntKind.u8.wrap cl = cl := by
      obtain ⟨n, rfl⟩ : ∃ n : Nat, cl = (n : Int) := ⟨cl.toNat, by omega⟩
      rcases (by omega : n = 0 ∨ n = 1 ∨ n = 2 ∨ n = 3 ∨ n = 4 ∨ n = 5 ∨ n = 6 ∨ n = 7 ∨ n = 8) with h | h | h | h | h | h | h | h | h <;> subst h <;> rfl
    have l256 : cl < 256 := by omega
    obtain ⟨X, hX⟩ : ∃ X, f.ln cl = X := ⟨_, rfl⟩
    rw [hX] at HF hbl
    clear hX
    go_wp2_with (first
      | ((with_reducible refine held ?_); refine H_load_mid rfl 34 _ rfl A 0 rfl [.int .u8 f.pr, .int .u32 f.s, .int .u32 f.d, .int .u16 f.sp, .int .u16 f.dp] _ hKy2 Tryz.underlying34 rfl keySizeF ?_)
      | ((with_reducible refine held ?_); refine H_buildRun rfl 47 _ rfl #[(0, .agg #[.int .u8 f.pr, .int .u32 f.s, .int .u32 f.d, .int .u16 f.sp, .int .u16 f.dp]), (1, .int .u8 f.sd), (2, .int .u8 cl), (3, .bool f.ph.rp), (4, .bool f.ph.ss), (5, .int .i64 f.dl), (6, .int .i64 f.sn)] (by kernel_rfl) _ _ (hbl _) ?_)
      | ((with_reducible refine held ?_); refine H_store_row rfl 47 _ _ rfl (A + 1) X.cells.toArray rfl rfl 47 Ln.zero.cells.toArray (((upI : Up W _).block (A + 1) (LtSize.lt (b := A + 1))).trans hRB) rlnSizeF rfl (ln_all X) ?_; refine wpList_letter (fun Z => UpI w Z ∧ Z.heap[A + 1]? = some (.cells X.cells.toArray 47 (0, 0))) ⟨⟨up_setRowG (upI : Up w _) hwA _⟩, setRow_heap _ _ _ _ _ _ (((upI : Up W _).block (A + 1) (LtSize.lt (b := A + 1))).trans hRB)⟩ ?_; rintro Z9 ⟨uZ9, hZ9⟩; haveI := uZ9))
    have r0 : Z9.cell? ⟨A + 1, 0, none⟩ = some (.int .u8 X.pr) := row_cellF hZ9 0 _ rfl
    have r1 : Z9.cell? ⟨A + 1, 1, none⟩ = some (.int .u32 X.s) := row_cellF hZ9 1 _ rfl
    have r2 : Z9.cell? ⟨A + 1, 2, none⟩ = some (.int .u32 X.d) := row_cellF hZ9 2 _ rfl
    have r3 : Z9.cell? ⟨A + 1, 3, none⟩ = some (.int .u16 X.sp) := row_cellF hZ9 3 _ rfl
    have r4 : Z9.cell? ⟨A + 1, 4, none⟩ = some (.int .u16 X.dp) := row_cellF hZ9 4 _ rfl
    have r5 : Z9.cell? ⟨A + 1, 5, none⟩ = some (.int .u8 X.sd) := row_cellF hZ9 5 _ rfl
    have r6 : Z9.cell? ⟨A + 1, 6, none⟩ = some (.int .u8 X.cl) := row_cellF hZ9 6 _ rfl
    have r7 : Z9.cell? ⟨A + 1, 7, none⟩ = some (.bool X.rp) := row_cellF hZ9 7 _ rfl
    have r8 : Z9.cell? ⟨A + 1, 8, none⟩ = some (.bool X.ss) := row_cellF hZ9 8 _ rfl
    have r9 : Z9.cell? ⟨A + 1, 9, none⟩ = some (.int .i64 X.dl) := row_cellF hZ9 9 _ rfl
    have r10 : Z9.cell? ⟨A + 1, 10, none⟩ = some (.int .i64 X.sn) := row_cellF hZ9 10 _ rfl
    exact bodyPost_ret (v := .tuple #[.agg #[.int .u8 X.pr, .int .u32 X.s, .int .u32 X.d, .int .u16 X.sp, .int .u16 X.dp, .int .u8 X.sd, .int .u8 X.cl, .bool X.rp, .bool X.ss, .int .i64 X.dl, .int .i64 X.sn], .int .i64 0]) (by simp [results, Tryz.results14, go_sem, r0, r1, r2, r3, r4, r5, r6, r7, r8, r9, r10]) rfl ⟨by rw [HF.out]; rfl, mkI⟩
end Go.Proofs.YteciigbonaecoaaGreatDoor
namespace Go.Ab
open Go.RowKit Go.Proofs.YteciigbonaecoaaGreatDoor
def allL : List Fl → Option (List Ln)
  | [] => some []
  | f :: t => match f.of with
    | none => none
    | some x => (allL t).map (x :: ·)
def FlRow (w : World) (v : Value) (l : List Fl) : Prop := RowOf Fl.cells 23 w v l
def allE (r : Option (List Ln)) (w0 : World) (e : Ending) (w' : World) (t : TypeId) : Prop :=
  match r with
  | some xs => ∃ u, e = .returned (.tuple #[u, .int .i64 0]) ∧ w'.ownsRow w0.heap.size t 11 u xs.length (xs.flatMap Ln.cells)
  | none => e = .returned (.tuple #[.slice none 0 0, .int .i64 380])
def allFrom (out : List Ln) (l : List Fl) : Option (List Ln) := (allL l).map (out ++ ·)
theorem allFrom_no {out : List Ln} {l : List Fl} {k : Nat} {f : Fl} (hf : l[k]? = some f) (h : f.of = none) : allFrom out (l.drop k) = none := by
  obtain ⟨hk, rfl⟩ := List.getElem?_eq_some_iff.1 hf
  unfold allFrom
  rw [List.drop_eq_getElem_cons hk, allL, h]; rfl
theorem allFrom_go {out : List Ln} {l : List Fl} {k : Nat} {f : Fl} {x : Ln} (hf : l[k]? = some f) (h : f.of = some x) : allFrom out (l.drop k) = allFrom (out ++ [x]) (l.drop (k + 1)) := by
  obtain ⟨hk, rfl⟩ := List.getElem?_eq_some_iff.1 hf
  unfold allFrom
  rw [List.drop_eq_getElem_cons hk, allL, h]
  cases allL (l.drop (k + 1)) <;> simp
theorem fl_one (f : Fl) : f.cells.toArray.all (·.oneCell') = true := by unfold Fl.cells; simp [Value.oneCell']
end Go.Ab
namespace Go.Proofs.YteciigbonaecoaaGreatDoor
open Go.RowKit Go.Ab
theorem slice_ln1 (y : Ln) (w : World) : (Instr.buildSlice 22 1 #[(0, .agg y.cells.toArray)]).run Tryz.prog w = .ok (.slice (some ⟨w.heap.size, 0, none⟩) 1 1) (w.alloc (.cells y.cells.toArray 44)) := by kernel_rfl
theorem ln_atF (X : World) (y : Ln) (t : TypeId) (j : Nat) (u : Value) (hu : y.cells[j]? = some u) : (X.alloc (.cells y.cells.toArray t)).cell? (Addr.add ⟨X.heap.size, 0, none⟩ j) = some u := by
  rw [show Addr.add ⟨X.heap.size, 0, none⟩ j = (⟨X.heap.size, j, none⟩ : Addr) by cases j <;> simp [Addr.add], World.cell?_alloc_at _ _ _ _ rfl]; simpa using hu
set_option maxHeartbeats 32000000 in
set_option maxRecDepth 100000 in
theorem dall_any (l : List Fl) (v : Value) (w : World) (g : GoodF w) (hv : FlRow w v l) (hb : ∀ f ∈ l, FlB f) (hl : l.length ≤ 1000000) :
    Calls Tryz.prog 12 #[v] w fun e w' => allE (allL l) w e w' 44 ∧ ∃ x : Ext w, w' = x.w := by
  obtain ⟨p, cap, rfl, hle, hc⟩ := hv
  obtain ⟨N, hN⟩ : ∃ N, l.length = N := ⟨_, rfl⟩
  rw [hN] at hle hl ⊢
  have HN := Lib.hid hN
  have Hc := Lib.hid hc
  have Hb := Lib.hid hb
  obtain ⟨T, hT⟩ : ∃ T, allL l = T := ⟨_, rfl⟩
  have HT0 := Lib.hid (show allFrom [] (l.drop 0) = T by rw [← hT]; unfold allFrom; rw [List.drop_zero]; cases allL l <;> rfl)
  rw [hT]
  obtain ⟨i0, hi, hy0, hy1, hy2⟩ := info_parts infoLine
  have Hi := Lib.hid hi; have Hy0 := Lib.hid hy0; have Hy1 := Lib.hid hy1; have Hy2 := Lib.hid hy2
  clear hN hc hb hT hi hy0 hy1 hy2
  go_enter Tryz.func12, Tryz.ntmps12
  go_wp2_with fail
  go_loopw [4, 11] (fun out i wr => ∃ (k : Nat) (os : List Ln), k ≤ N ∧ i = .int .i64 (k : Int) ∧ os.length = k ∧ Hid (allFrom os (l.drop k) = T) ∧ Hid (wr.ownsRow w.heap.size 44 11 out k (os.flatMap Ln.cells)) ∧ Up w wr) (fun _ i _ => N - (intOf i).toNat)
  case atStart => exact ⟨0, [], Nat.zero_le _, rfl, rfl, HT0, Lib.hid (World.ownsRow_nil _ _ _ _), Up.refl _⟩
  case round =>
    clear HT0
    obtain ⟨k, os, hk, rfl, hos, HT, Hown, hu⟩ := hrel
    haveI : UpI w wr := ⟨hu⟩
    by_cases hlt : k < N
    · have hlt' : (k : Int) < (N : Int) := by omega
      have k0 : (0 : Int) ≤ (k : Int) := by omega
      obtain ⟨f, hf⟩ : ∃ f, l[k]? = some f := ⟨_, List.getElem?_eq_getElem (by rw [HN.out]; exact hlt)⟩
      obtain ⟨b1, o1, rfl, hb1, hc1⟩ := Hc.out k f hf
      have hX : wr.rangeAt b1 (o1 + k * 23) f.cells := fun t u hj => hu.cell_some (hc1 t u hj)
      haveI : LtSize b1 wr := ⟨Nat.lt_of_lt_of_le hb1 hu.size⟩
      have hOf := fun W (h : UpI w W) => dof_any f (Hb.out f (List.mem_of_getElem? hf)) W (g.up h.up)
      have Hf := Lib.hid hf
      clear hc1 hf
      go_upto_region 5 with (first
        | ((with_reducible refine held ?_); refine H_load_mid rfl 42 _ rfl b1 (o1 + k * 23) rfl f.cells _ hX Tryz.underlying42 rfl flowSize ?_)
        | ((with_reducible refine held ?_); refine H_store_row rfl 42 _ _ rfl _ f.cells.toArray rfl rfl 42 _ (alloc_new rfl) flowSize rfl (fl_one f) ?_))
      obtain ⟨D, hD⟩ : ∃ D, wr.heap.size = D := ⟨_, rfl⟩
      rw [hD]
      refine wp_letter (fun Z => UpI wr Z ∧ Z.heap[D]? = some (.cells f.cells.toArray 42 (0, 0))) ⟨⟨UpI.row hD _⟩, setRow_heap _ _ _ _ _ _ (alloc_new hD)⟩ ?_
      rintro Z ⟨uZ, hZ⟩
      haveI := uZ
      haveI : UpI w Z := ⟨hu.trans uZ.up⟩
      haveI : LtSize D Z := ⟨(Array.getElem?_eq_some_iff.1 hZ).1⟩
      clear hX hD
      cases hr : f.of with
      | none =>
        have E := Lib.hid (show T = none by rw [← HT.out]; exact allFrom_no Hf.out hr)
        rw [hr] at hOf
        have hOf' : ∀ W, UpI w W → Gives Tryz.prog 13 #[.agg f.cells.toArray] W (.tuple #[.agg Ln.zero.cells.toArray, .int .i64 380]) := hOf
        clear hr hOf
        go_wp2_with (first
          | ((with_reducible refine held ?_); refine H_load_row rfl 42 _ rfl D rfl 42 f.cells.toArray (0, 0) _ hZ Tryz.underlying42 rfl flowSize ?_)
          | ((with_reducible refine held ?_); refine H_store_row rfl 44 _ _ rfl _ Ln.zero.cells.toArray rfl rfl 44 _ (alloc_new rfl) lnSize rfl (ln_all Ln.zero) ?_; refine wpList_letter (fun V => UpI w V) ⟨UpI.row rfl _⟩ ?_; rintro V uV; haveI := uV)
          | (go_at_call 13; (with_reducible refine (hOf' _ inferInstance).mono ?_); rintro e w' ⟨rfl, z1, rfl⟩))
        go_ret2
        exact ⟨by rw [E.out]; rfl, mkI⟩
      | some x =>
        have E := Lib.hid (show allFrom (os ++ [x]) (l.drop (k + 1)) = T by rw [← HT.out]; exact (allFrom_go Hf.out hr).symm)
        rw [hr] at hOf
        have hOf' : ∀ W, UpI w W → Gives Tryz.prog 13 #[.agg f.cells.toArray] W (.tuple #[.agg x.cells.toArray, .int .i64 0]) := hOf
        clear hr hOf HT
        go_upto_region 6 with (first
          | ((with_reducible refine held ?_); refine H_load_row rfl 42 _ rfl D rfl 42 f.cells.toArray (0, 0) _ hZ Tryz.underlying42 rfl flowSize ?_)
          | ((with_reducible refine held ?_); refine H_store_row rfl 44 _ _ rfl _ x.cells.toArray rfl rfl 44 _ (alloc_new rfl) lnSize rfl (ln_all x) ?_)
          | (go_at_call 13; (with_reducible refine (hOf' _ inferInstance).mono ?_); rintro e w' ⟨rfl, z1, rfl⟩))
        obtain ⟨E1, hE1⟩ : ∃ E, z1.w.heap.size = E := ⟨_, rfl⟩
        rw [hE1]
        refine wp_letter (fun V => UpI Z V ∧ V.heap[E1]? = some (.cells x.cells.toArray 44 (0, 0))) ⟨⟨UpI.row hE1 _⟩, setRow_heap _ _ _ _ _ _ (alloc_new hE1)⟩ ?_
        clear hE1 hOf'
        rintro V ⟨uV, hVE⟩
        haveI := uV
        haveI : UpI w V := ⟨(upI : Up w Z).trans uV.up⟩
        haveI : LtSize E1 V := ⟨(Array.getElem?_eq_some_iff.1 hVE).1⟩
        have HF := Lib.hid (show (os ++ [x]).flatMap Ln.cells = os.flatMap Ln.cells ++ x.cells by simp)
        generalize os.flatMap Ln.cells = cs at *
        go_wp2_with (first
          | ((with_reducible refine held ?_); refine H_load_row rfl 44 _ rfl E1 rfl 44 x.cells.toArray (0, 0) _ hVE Tryz.underlying44 rfl lnSize ?_)
          | ((with_reducible refine held ?_); refine H_sliceRun rfl 22 1 _ rfl #[(0, .agg x.cells.toArray)] (by kernel_rfl) _ _ (slice_ln1 x _) ?_)
          | (at_builtin; (with_reducible refine held ?_); refine H_append_own rfl _ _ 22 rfl w.heap.size 44 i0 Ln.zero.val 11 40 Tryz.underlying22 Hi.out Hy0.out Hy1.out Hy2.out rfl (by decide) _ _ _ rfl (owns_up (owns_up Hown.out ((upI : Up wr Z).trans uV.up)) (upI : Up V _)) ⟨_, 0, none⟩ 1 1 x.cells rfl rfl ?c1 ?c2 ?c3 ?c4 ?c5 ?_))
        case c1 => intro j u hj; exact ln_atF V x _ j u hj
        case c2 => exact fun u h => x.one u h
        case c3 => exact Nat.le_trans (Nat.succ_le_of_lt (Nat.lt_of_lt_of_le hlt hl)) (by unfold maxLen; decide)
        case c4 => exact Nat.le_trans (Nat.mul_le_mul_right 40 (Nat.succ_le_of_lt (Nat.lt_of_lt_of_le hlt hl))) (by decide)
        case c5 => first | exact Nat.le_succ_of_le (upI : Up w V).size | exact (upI : Up w _).size
        intro v' w1 hown' hgrow _
        have hu1 : Up w w1 := Up.grown (upI : Up w _) hgrow (owns_row Hown.out)
        have Hown' := Lib.hid hown'
        clear hown' hgrow Hown
        go_wp2_with fail
        go_roundw
        case rel => exact ⟨k + 1, os ++ [x], Nat.succ_le_of_lt hlt, by go_num, by rw [List.length_append, hos]; rfl, E, by rw [HF.out]; exact Hown', hu1⟩
        case measure => simp [intOf]; omega
    · obtain rfl : k = N := by omega
      have E := Lib.hid (show T = some os by rw [← HT.out, List.drop_of_length_le (by rw [HN.out]; exact Nat.le_refl _)]; unfold allFrom allL; simp)
      clear HT
      go_wp2_with fail
      go_ret2
      exact ⟨by rw [E.out]; exact ⟨_, rfl, by rw [hos]; exact Hown.out⟩, hu.mk⟩
end Go.Proofs.YteciigbonaecoaaGreatDoor
