/- The reference's words of a line: what begins with a word, a number, names, right lines. -/
import Derived.Test.YtgenojfbhpimgaaGreatDoorRdP
import Derived.Test.YtgenojfbhpimgaaGreatDoorRefA
import Derived.Test.YtgenojfbhpimgaaGreatDoorRef7
import Derived.Test.YtgenojfbhpimgaaGreatDoorDR
namespace Go.Proofs.YtgenojfbhpimgaaGreatDoor
open Go.RowKit Go.Ab
set_option maxHeartbeats 8000000 in
set_option maxRecDepth 100000 in
theorem rbegins_any (s wd : List UInt8) (w : World) (_ : s.length < 4294967281) (hw : wd.length < 4294967281) : Gives Tryz.prog 74 #[.string ⟨s.toArray⟩, .string ⟨wd.toArray⟩] w (.tuple #[.string ⟨(beginsP wd s).1.toArray⟩, .bool (beginsP wd s).2]) := by
  unfold Gives
  by_cases hlt : s.length < wd.length
  · have E := Lib.hid (show beginsP wd s = (s, false) by
      unfold beginsP
      rw [if_neg (fun e => by have := congrArg List.length e; rw [List.length_take] at this; omega)])
    have hd : decide (s.length < wd.length) = true := by simpa using hlt
    clear hlt
    go_enter Tryz.func74, Tryz.ntmps74
    go_wp2_with fail
    go_ret2
    exact ⟨by rw [E.out]; rfl, mkI⟩
  · have hle : wd.length ≤ s.length := by omega
    have hd : decide (s.length < wd.length) = false := by simpa using hle
    clear hlt
    have k0 : (0 : Int) ≤ (wd.length : Int) := by omega
    have k1 : (wd.length : Int) ≤ (s.length : Int) := by omega
    cases he : (s.take wd.length == wd)
    · have E := Lib.hid (show beginsP wd s = (s, false) by
        unfold beginsP
        rw [if_neg (by simpa using he)])
      have he2 : ((({ data := s.toArray } : ByteArray).extract 0 wd.length).toList == wd) = false := by rw [ba_take]; simpa using he
      clear he
      go_enter Tryz.func74, Tryz.ntmps74
      go_wp2_with fail
      go_ret2
      exact ⟨by rw [E.out]; rfl, mkI⟩
    · have E := Lib.hid (show beginsP wd s = (s.drop wd.length, true) by
        unfold beginsP
        rw [if_pos (by simpa using he)])
      have he2 : ((({ data := s.toArray } : ByteArray).extract 0 wd.length).toList == wd) = true := by rw [ba_take]; simpa using he
      clear he
      go_enter Tryz.func74, Tryz.ntmps74
      go_wp2_with fail
      go_ret2
      exact ⟨by rw [E.out, ← ba_drop]; rfl, mkI⟩
attribute [local go_sem] mk_get
set_option maxHeartbeats 16000000 in
set_option maxRecDepth 100000 in
theorem rnumber_any (l : List UInt8) (w : World) (hl : l.length < 4294967281) : Gives Tryz.prog 76 #[.string ⟨l.toArray⟩] w (.tuple #[.int .i64 (numR l).1, .string ⟨(numR l).2.1.toArray⟩, .bool (numR l).2.2]) := by
  unfold Gives
  have hno : numP 9223372036854775807 (some l) = (0, none) → numR l = (0, l, false) := fun h => by unfold numR; rw [h]
  have hyes : ∀ n r, numP 9223372036854775807 (some l) = (n, some r) → numR l = (n, r, true) := fun n r h => by unfold numR; rw [h]
  go_enter Tryz.func76, Tryz.ntmps76
  go_wp2_with fail
  go_loopw [5, 6] (fun n i wr => ∃ (j : Nat) (v : Int), j ≤ l.length ∧ i = .int .i64 (j : Int) ∧ n = .int .i64 v ∧ 0 ≤ v ∧ v ≤ 9223372036854775807 ∧ Hid (v = valL (l.take j)) ∧ Hid (∀ c ∈ l.take j, isDig c = true) ∧ wr = w) (fun _ i _ => l.length - (intOf i).toNat)
  case atStart => exact ⟨0, 0, Nat.zero_le _, rfl, rfl, by omega, by omega, Lib.hid (by simp [valL]), Lib.hid (by simp), rfl⟩
  case round =>
    obtain ⟨j, v, hj, rfl, rfl, v0, v1, Hv, Hd, rfl⟩ := hrel
    have stop := fun hs => numP_stop 9223372036854775807 l j hj Hd.out hs
    rw [← Hv.out] at stop
    have Hst := Lib.hid stop
    have Hno := Lib.hid hno; have Hyes := Lib.hid hyes
    clear stop hno hyes
    have fin : noDig (l.drop j) → ∀ (P : Prop), (j = 0 → numR l = (0, l, false) → P) → (∀ h : 0 < l.length, l[0] = 48 → 1 < j → numR l = (0, l, false) → P) → (∀ h : 0 < l.length, 0 < j → (l[0] = 48 → j ≤ 1) → numR l = (v, l.drop j, true) → P) → P := fun hn P h0 h1 h2 => by
      obtain ⟨R0, _, R2⟩ := Hst.out (.inr hn)
      by_cases e : j = 0
      · exact h0 e (Hno.out (R0 e))
      · have hlp : 0 < l.length := by omega
        by_cases h48 : l[0] = 48 ∧ 1 < j
        · exact h1 hlp h48.1 h48.2 (Hno.out ((R2 v1).1 hlp h48.1 h48.2))
        · have h3 : l[0] = 48 → j ≤ 1 := fun e2 => by
            by_cases h4 : 1 < j
            · exact absurd ⟨e2, h4⟩ h48
            · omega
          exact h2 hlp (by omega) h3 (Hyes.out _ _ ((R2 v1).2 hlp (by omega) h3))
    have Fin := Lib.hid fin
    clear fin
    by_cases hA : j < l.length
    · obtain ⟨b, hb⟩ : ∃ b, l[j] = b := ⟨_, rfl⟩
      have hjl : (j : Int) < (l.length : Int) := by omega
      have hdk : l.drop j = b :: l.drop (j + 1) := by rw [drop_at l j hA, hb]
      have hsn : l.take (j + 1) = l.take j ++ [b] := by rw [List.take_succ_eq_append_getElem hA, hb]
      have Hdk := Lib.hid hdk; have Hsn := Lib.hid hsn
      clear hdk hsn
      have j0 : (0 : Int) ≤ (j : Int) := by omega
      have FIN : (b.toNat < 48 ∨ 57 < b.toNat) → ∀ (P : Prop), (j = 0 → numR l = (0, l, false) → P) → (∀ h : 0 < l.length, l[0] = 48 → 1 < j → numR l = (0, l, false) → P) → (∀ h : 0 < l.length, 0 < j → (l[0] = 48 → j ≤ 1) → numR l = (v, l.drop j, true) → P) → P := fun h => Fin.out (by rw [Hdk.out]; unfold noDig isDig; simp; omega)
      have FN := Lib.hid FIN
      clear FIN
      by_cases hd : 48 ≤ b.toNat ∧ b.toNat ≤ 57
      · obtain ⟨hd1, hd2⟩ := hd
        have HD : Hid (∀ c ∈ l.take (j + 1), isDig c = true) := Lib.hid (by
          rw [Hsn.out]
          intro c hc
          rcases List.mem_append.1 hc with h | h
          · exact Hd.out c h
          · simp at h; subst h; unfold isDig; simp; omega)
        have HV : Hid (10 * v + ((b.toNat : Int) - 48) = valL (l.take (j + 1))) := Lib.hid (by rw [Hsn.out, valL_snoc, ← Hv.out])
        have i1 : (48 : Int) ≤ (b.toNat : Int) := by omega
        have i2 : (b.toNat : Int) ≤ 57 := by omega
        have hq : (9223372036854775807 - ((b.toNat : Int) - 48)).tdiv 10 = (9223372036854775807 - ((b.toNat : Int) - 48)) / 10 := Int.tdiv_eq_ediv_of_nonneg (by omega)
        by_cases hv : 10 * v + ((b.toNat : Int) - 48) ≤ 9223372036854775807
        · have hcmp : v ≤ (9223372036854775807 - ((b.toNat : Int) - 48)) / 10 := by omega
          clear Hst hd1 hd2
          go_wp2_with fail
          all_goals first | (exfalso; omega) | skip
          go_roundw
          case rel => exact ⟨j + 1, _, by omega, by go_num, rfl, by omega, hv, HV, HD, trivial⟩
          case measure => simp [intOf]; omega
        · have hcmp : (9223372036854775807 - ((b.toNat : Int) - 48)) / 10 < v := by omega
          have Z := Lib.hid (show numR l = (0, l, false) from Hno.out (by
            have := (numP_stop 9223372036854775807 l (j + 1) (by omega) HD.out (.inl (by rw [← HV.out]; omega))).2.1 (by rw [← HV.out]; omega)
            exact this))
          clear Hst hd1 hd2
          go_wp2_with fail
          all_goals first | (exfalso; omega) | skip
          go_ret3
          exact ⟨by rw [Z.out]; rfl, mkI⟩
      · have hdn : b.toNat < 48 ∨ 57 < b.toNat := by omega
        have hjl2 : j ≤ 4294967281 := by omega
        clear hd Hst
        refine FN.out hdn _ (fun hz Z0 => ?_) (fun hlp h48 h1 Z0 => ?_) (fun hlp h1 h48 Z0 => ?_)
        · have Z := Lib.hid Z0
          clear Z0 FN Fin
          subst hz
          rcases hdn with hdn | hdn
          · have i1 : (b.toNat : Int) < 48 := by omega
            go_wp2_with fail
            all_goals first | (exfalso; omega) | (go_ret3; exact ⟨by rw [Z.out]; rfl, mkI⟩)
          · have i1 : (57 : Int) < (b.toNat : Int) := by omega
            go_wp2_with fail
            all_goals first | (exfalso; omega) | (go_ret3; exact ⟨by rw [Z.out]; rfl, mkI⟩)
        · have Z := Lib.hid Z0
          clear Z0 FN Fin
          have b1 : ((j : Int) == 0) = false := by simp; omega
          have b2 : (1 : Int) < (j : Int) := by omega
          have c48 : (((l[0] : UInt8).toNat : Int) == 48) = true := by rw [h48]; rfl
          have Hb := Lib.hid hb
          clear h48
          rcases hdn with hdn | hdn
          · have i1 : (b.toNat : Int) < 48 := by omega
            go_wp2_with fail
            all_goals first | (exfalso; omega) | (go_ret3; exact ⟨by rw [Z.out]; rfl, mkI⟩)
          · have i1 : (57 : Int) < (b.toNat : Int) := by omega
            go_wp2_with fail
            all_goals first | (exfalso; omega) | (go_ret3; exact ⟨by rw [Z.out]; rfl, mkI⟩)
        · have Z := Lib.hid Z0
          clear Z0 FN Fin
          have b1 : ((j : Int) == 0) = false := by simp; omega
          have j1 : (0 : Int) < (j : Int) := by omega
          by_cases h8 : l[0] = 48
          · have b2 : (j : Int) ≤ 1 := by have := h48 h8; omega
            have c48 : (((l[0] : UInt8).toNat : Int) == 48) = true := by rw [h8]; rfl
            clear h8 h48
            rcases hdn with hdn | hdn
            · have i1 : (b.toNat : Int) < 48 := by omega
              go_wp2_with fail
              all_goals first | (exfalso; omega) | skip
              (refine wp_region_ext (by kernel_rfl) (by kernel_rfl) ?_; (repeat (go_big_quiet_step (fail))); refine wpQuiet_nil ?_; rintro _ ⟨y, rfl⟩)
              go_wp2_with fail
              go_ret3
              exact ⟨by rw [Z.out, ← ba_drop]; rfl, mkI⟩
            · have i1 : (57 : Int) < (b.toNat : Int) := by omega
              go_wp2_with fail
              all_goals first | (exfalso; omega) | skip
              (refine wp_region_ext (by kernel_rfl) (by kernel_rfl) ?_; (repeat (go_big_quiet_step (fail))); refine wpQuiet_nil ?_; rintro _ ⟨y, rfl⟩)
              go_wp2_with fail
              go_ret3
              exact ⟨by rw [Z.out, ← ba_drop]; rfl, mkI⟩
          · have c48 : (((l[0] : UInt8).toNat : Int) == 48) = false := by
              simp only [beq_eq_false_iff_ne, ne_eq]
              intro h; exact h8 (UInt8.toNat_inj.1 (by simp; omega))
            clear h8 h48
            rcases hdn with hdn | hdn
            · have i1 : (b.toNat : Int) < 48 := by omega
              go_wp2_with fail
              all_goals first | (exfalso; omega) | skip
              (refine wp_region_ext (by kernel_rfl) (by kernel_rfl) ?_; (repeat (go_big_quiet_step (fail))); refine wpQuiet_nil ?_; rintro _ ⟨y, rfl⟩)
              go_wp2_with fail
              go_ret3
              exact ⟨by rw [Z.out, ← ba_drop]; rfl, mkI⟩
            · have i1 : (57 : Int) < (b.toNat : Int) := by omega
              go_wp2_with fail
              all_goals first | (exfalso; omega) | skip
              (refine wp_region_ext (by kernel_rfl) (by kernel_rfl) ?_; (repeat (go_big_quiet_step (fail))); refine wpQuiet_nil ?_; rintro _ ⟨y, rfl⟩)
              go_wp2_with fail
              go_ret3
              exact ⟨by rw [Z.out, ← ba_drop]; rfl, mkI⟩
    · obtain rfl : j = l.length := by omega
      clear Hst
      refine Fin.out (by rw [List.drop_length]; trivial) _ (fun hz Z0 => ?_) (fun hlp h48 h1 Z0 => ?_) (fun hlp h1 h48 Z0 => ?_)
      · have Z := Lib.hid Z0
        clear Z0 Fin
        have b1 : ((l.length : Int) == 0) = true := beq_iff_eq.2 (by omega)
        go_wp2_with fail
        all_goals first | (exfalso; omega) | (go_ret3; exact ⟨by rw [Z.out]; rfl, mkI⟩)
      · have Z := Lib.hid Z0
        clear Z0 Fin
        have b1 : ((l.length : Int) == 0) = false := beq_eq_false_iff_ne.2 (by omega)
        have b2 : (1 : Int) < (l.length : Int) := by omega
        have c48 : (((l[0] : UInt8).toNat : Int) == 48) = true := by rw [h48]; rfl
        clear h48
        go_wp2_with fail
        all_goals first | (exfalso; omega) | (go_ret3; exact ⟨by rw [Z.out]; rfl, mkI⟩)
      · have Z := Lib.hid Z0
        clear Z0 Fin
        have b1 : ((l.length : Int) == 0) = false := beq_eq_false_iff_ne.2 (by omega)
        by_cases h8 : l[0] = 48
        · have b2 : (l.length : Int) ≤ 1 := by have := h48 h8; omega
          have c48 : (((l[0] : UInt8).toNat : Int) == 48) = true := by rw [h8]; rfl
          clear h8 h48
          go_wp2_with fail
          all_goals first | (exfalso; omega) | skip
          (refine wp_region_ext (by kernel_rfl) (by kernel_rfl) ?_; (repeat (go_big_quiet_step (fail))); refine wpQuiet_nil ?_; rintro _ ⟨y, rfl⟩)
          go_wp2_with fail
          go_ret3
          exact ⟨by rw [Z.out, List.drop_length]; rfl, mkI⟩
        · have c48 : (((l[0] : UInt8).toNat : Int) == 48) = false := by
            simp only [beq_eq_false_iff_ne, ne_eq]
            intro h; exact h8 (UInt8.toNat_inj.1 (by simp; omega))
          clear h8 h48
          go_wp2_with fail
          all_goals first | (exfalso; omega) | skip
          (refine wp_region_ext (by kernel_rfl) (by kernel_rfl) ?_; (repeat (go_big_quiet_step (fail))); refine wpQuiet_nil ?_; rintro _ ⟨y, rfl⟩)
          go_wp2_with fail
          go_ret3
          exact ⟨by rw [Z.out, List.drop_length]; rfl, mkI⟩
end Go.Proofs.YtgenojfbhpimgaaGreatDoor
namespace Go.Proofs.YtgenojfbhpimgaaGreatDoor
open Go.RowKit Go.Ab
set_option maxHeartbeats 16000000 in
set_option maxRecDepth 100000 in
theorem rright38_any (l : Ln) (w : World) (b : LnB l) : Gives Tryz.prog 40 #[l.val] w (.bool l.right) := by
  have r0 := b.sd0; have r1 := b.cl0
  obtain ⟨pr, s, d, sp, dp, sd, cl, rp, ss, dl, sn⟩ := l
  simp only at r0 r1
  clear b
  unfold Gives Ln.val
  by_cases h1 : sd ≤ 1
  · by_cases h2 : cl < 9
    · by_cases h3 : (rp || !ss) = true
      · by_cases h4 : 0 ≤ dl
        · by_cases h5 : 0 ≤ sn
          · have E : Hid (Ln.right ⟨pr, s, d, sp, dp, sd, cl, rp, ss, dl, sn⟩ = true) := Lib.hid (by simp only [Ln.right, h1, h2, h3, h4, h5]; rfl)
            cases rp <;> cases ss
            all_goals first | (exfalso; exact absurd h3 (by decide)) | skip
            all_goals
              clear h3
              go_enter Tryz.func40, Tryz.ntmps40
              go_wp2_with fail
              all_goals first | (exfalso; omega) | skip
              go_ret
              exact ⟨ret_bool E.out.symm, mkI⟩
          · have E : Hid (Ln.right ⟨pr, s, d, sp, dp, sd, cl, rp, ss, dl, sn⟩ = false) := Lib.hid (by simp [Ln.right, h5])
            cases rp <;> cases ss
            all_goals first | (exfalso; exact absurd h3 (by decide)) | skip
            all_goals
              clear h3
              go_enter Tryz.func40, Tryz.ntmps40
              go_wp2_with fail
              all_goals first | (exfalso; omega) | skip
              go_ret
              exact ⟨ret_bool E.out.symm, mkI⟩
        · have E : Hid (Ln.right ⟨pr, s, d, sp, dp, sd, cl, rp, ss, dl, sn⟩ = false) := Lib.hid (by simp [Ln.right, h4])
          cases rp <;> cases ss
          all_goals first | (exfalso; exact absurd h3 (by decide)) | skip
          all_goals
            clear h3
            go_enter Tryz.func40, Tryz.ntmps40
            go_wp2_with fail
            all_goals first | (exfalso; omega) | skip
            go_ret
            exact ⟨ret_bool E.out.symm, mkI⟩
      · have E : Hid (Ln.right ⟨pr, s, d, sp, dp, sd, cl, rp, ss, dl, sn⟩ = false) := Lib.hid (by simp [Ln.right, h3])
        cases rp <;> cases ss
        all_goals first | (exfalso; exact absurd rfl h3) | skip
        clear h3
        go_enter Tryz.func40, Tryz.ntmps40
        go_wp2_with fail
        all_goals first | (exfalso; omega) | skip
        go_ret
        exact ⟨ret_bool E.out.symm, mkI⟩
    · have E : Hid (Ln.right ⟨pr, s, d, sp, dp, sd, cl, rp, ss, dl, sn⟩ = false) := Lib.hid (by simp [Ln.right, h2])
      go_enter Tryz.func40, Tryz.ntmps40
      go_wp2_with fail
      all_goals first | (exfalso; omega) | skip
      go_ret
      exact ⟨ret_bool E.out.symm, mkI⟩
  · have E : Hid (Ln.right ⟨pr, s, d, sp, dp, sd, cl, rp, ss, dl, sn⟩ = false) := Lib.hid (by simp [Ln.right, h1])
    go_enter Tryz.func40, Tryz.ntmps40
    go_wp2_with fail
    all_goals first | (exfalso; omega) | skip
    go_ret
    exact ⟨ret_bool E.out.symm, mkI⟩

set_option maxHeartbeats 4000000 in
set_option maxRecDepth 100000 in
theorem rnames_any (w : World) (i : Nat) (hi : i < 9) (n : Nat) (hs : SizeIs w n) : Calls Tryz.prog 75 #[] w fun e w' => e = .returned (.slice (some ⟨n, 0, none⟩) 9 9) ∧ ∃ x : Ext w, x.w.cell? ⟨n, i, none⟩ = some (.string ⟨(clsOf (i : Int)).toArray⟩) ∧ LtSize n x.w ∧ w' = x.w := by
  obtain rfl := hs.eq
  clear hs
  go_enter Tryz.func75, Tryz.ntmps75
  go_wp2_with fail
  go_ret
  refine ⟨rfl, ⟨_, (Up.refl w).alloc _⟩, ?_, ?_, rfl⟩
  · show (World.alloc _ _).cell? _ = _
    rw [alloc_at_cellI]
    rcases (by omega : i = 0 ∨ i = 1 ∨ i = 2 ∨ i = 3 ∨ i = 4 ∨ i = 5 ∨ i = 6 ∨ i = 7 ∨ i = 8) with rfl | rfl | rfl | rfl | rfl | rfl | rfl | rfl | rfl <;> rfl
  · show LtSize _ (World.alloc _ _)
    infer_instance
end Go.Proofs.YtgenojfbhpimgaaGreatDoor
