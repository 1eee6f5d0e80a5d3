/- Package dump: right lines, words. -/
import Derived.Test.YteciigbonaecoaaGreatDoorDDump
import Derived.Test.YteciigbonaecoaaGreatDoorTr1
import Derived.Shelf.SlicesE.DeleteFunc
namespace Go.Ab
open Go.RowKit Go.Proofs.YteciigbonaecoaaGreatDoor
structure GoodD (w : World) : Prop where
  goodN : GoodN w
  cls : ∀ (i : Nat) s, clsL[i]? = some s → w.cell? ⟨2, i, none⟩ = some (.string ⟨s.toArray⟩)
  side0 : w.cell? ⟨0, 0, none⟩ = some (.string ⟨insideW.toArray⟩)
  side1 : w.cell? ⟨0, 1, none⟩ = some (.string ⟨outsideW.toArray⟩)
theorem GoodD.up {w W : World} (g : GoodD w) (h : Up w W) : GoodD W := ⟨g.goodN.up h, fun i s hs => h.cell_some (g.cls i s hs), h.cell_some g.side0, h.cell_some g.side1⟩
theorem GoodD.good {w : World} (g : GoodD w) : Go.Proofs.YteciigbonaecoaaGreatDoor.Good w := g.goodN.good
theorem up_putRow {α : Type} [Inhabited α] {enc : α → Value} {w0 w : World} {g off q : Nat} {d : Array α} (h : Up w0 w) (hg : w0.heap.size ≤ g) : Up w0 (Sort.putRow enc (Sort.ahead w q) g off d) :=
  ⟨h.os, h.tape, h.output, by rw [Sort.size_putRow]; exact h.size, fun k hk => by
    have hb := h.block k hk
    unfold Sort.putRow Sort.mapBlock Sort.ahead
    simp only [Array.getElem?_modify]
    rw [if_neg (by omega)]
    exact hb⟩
end Go.Ab
namespace Go.Proofs.YteciigbonaecoaaGreatDoor
open Go.RowKit Go.Ab
set_option maxHeartbeats 16000000 in
set_option maxRecDepth 100000 in
theorem dright_any (l : Ln) (w : World) (b : LnB l) : Gives Tryz.prog 30 #[l.val] w (.bool l.right) := by
  have r0 := b.sd0; have r1 := b.cl0
  obtain ⟨pr, s, d, sp, dp, sd, cl, rp, ss, dl, sn⟩ := l
  simp only at r0 r1
  clear b
  unfold Gives Ln.val
  by_cases h1 : sd ≤ 1
  · by_cases h2 : cl < 9
    · by_cases h3 : (rp || !ss) = true
      · by_cases h4 : 0 ≤ dl
        · by_cases h5 : 0 ≤ sn
          · have E : Hid (Ln.right ⟨pr, s, d, sp, dp, sd, cl, rp, ss, dl, sn⟩ = true) := Lib.hid (by simp only [Ln.right, h1, h2, h3, h4, h5]; rfl)
            cases rp <;> cases ss
            all_goals first | (exfalso; exact absurd h3 (by decide)) | skip
            all_goals
              clear h3
              go_enter Tryz.func30, Tryz.ntmps30
              go_wp2_with fail
              all_goals first | (exfalso; omega) | skip
              go_ret
              exact ⟨ret_bool E.out.symm, mkI⟩
          · have E : Hid (Ln.right ⟨pr, s, d, sp, dp, sd, cl, rp, ss, dl, sn⟩ = false) := Lib.hid (by simp [Ln.right, h5])
            cases rp <;> cases ss
            all_goals first | (exfalso; exact absurd h3 (by decide)) | skip
            all_goals
              clear h3
              go_enter Tryz.func30, Tryz.ntmps30
              go_wp2_with fail
              all_goals first | (exfalso; omega) | skip
              go_ret
              exact ⟨ret_bool E.out.symm, mkI⟩
        · have E : Hid (Ln.right ⟨pr, s, d, sp, dp, sd, cl, rp, ss, dl, sn⟩ = false) := Lib.hid (by simp [Ln.right, h4])
          cases rp <;> cases ss
          all_goals first | (exfalso; exact absurd h3 (by decide)) | skip
          all_goals
            clear h3
            go_enter Tryz.func30, Tryz.ntmps30
            go_wp2_with fail
            all_goals first | (exfalso; omega) | skip
            go_ret
            exact ⟨ret_bool E.out.symm, mkI⟩
      · have E : Hid (Ln.right ⟨pr, s, d, sp, dp, sd, cl, rp, ss, dl, sn⟩ = false) := Lib.hid (by simp [Ln.right, h3])
        cases rp <;> cases ss
        all_goals first | (exfalso; exact absurd rfl h3) | skip
        clear h3
        go_enter Tryz.func30, Tryz.ntmps30
        go_wp2_with fail
        all_goals first | (exfalso; omega) | skip
        go_ret
        exact ⟨ret_bool E.out.symm, mkI⟩
    · have E : Hid (Ln.right ⟨pr, s, d, sp, dp, sd, cl, rp, ss, dl, sn⟩ = false) := Lib.hid (by simp [Ln.right, h2])
      go_enter Tryz.func30, Tryz.ntmps30
      go_wp2_with fail
      all_goals first | (exfalso; omega) | skip
      go_ret
      exact ⟨ret_bool E.out.symm, mkI⟩
  · have E : Hid (Ln.right ⟨pr, s, d, sp, dp, sd, cl, rp, ss, dl, sn⟩ = false) := Lib.hid (by simp [Ln.right, h1])
    go_enter Tryz.func30, Tryz.ntmps30
    go_wp2_with fail
    all_goals first | (exfalso; omega) | skip
    go_ret
    exact ⟨ret_bool E.out.symm, mkI⟩
theorem cls_big (c : Int) (h : 9 ≤ c) : clsOf c = [] := by
  unfold clsOf
  rw [List.getElem?_eq_none (by show 9 ≤ c.toNat; omega)]; rfl
set_option maxHeartbeats 8000000 in
set_option maxRecDepth 100000 in
theorem className_any (c : Int) (w : World) (g : GoodD w) (c0 : 0 ≤ c) (c1 : c < 256) : Gives Tryz.prog 59 #[.int .u8 c] w (.string ⟨(clsOf c).toArray⟩) := by
  by_cases h : c < 9
  · obtain ⟨k, rfl⟩ := Int.eq_ofNat_of_zero_le c0
    have hk : k < 9 := by omega
    obtain ⟨s, hs⟩ : ∃ s, clsL[k]? = some s := ⟨_, List.getElem?_eq_getElem (by show k < 9; exact hk)⟩
    have hw := g.cls k s hs
    have E : Hid (clsOf (k : Int) = s) := Lib.hid (by unfold clsOf; simp [hs])
    haveI : LtSize 2 w := ⟨cell_lt hw⟩
    have k0 : (0 : Int) ≤ (k : Int) := by omega
    rw [E.out]
    unfold Gives
    clear E hs g
    go_enter Tryz.func59, Tryz.ntmps59
    go_wp2_with fail
    all_goals first | (exfalso; omega) | skip
    go_ret
    exact ⟨rfl, mkI⟩
  · rw [cls_big c (by omega)]
    unfold Gives
    go_enter Tryz.func59, Tryz.ntmps59
    go_wp2_with fail
    all_goals first | (exfalso; omega) | skip
    go_ret
    exact ⟨rfl, mkI⟩
set_option maxHeartbeats 4000000 in
theorem only_any (b : Bool) (word : List UInt8) (w : World) : Gives Tryz.prog 60 #[.bool b, .string ⟨word.toArray⟩] w (.string ⟨(onlyW b word).toArray⟩) := by
  unfold Gives onlyW
  cases b
  all_goals
    go_enter Tryz.func60, Tryz.ntmps60
    go_wp2_with fail
    go_ret
    exact ⟨rfl, mkI⟩
end Go.Proofs.YteciigbonaecoaaGreatDoor
