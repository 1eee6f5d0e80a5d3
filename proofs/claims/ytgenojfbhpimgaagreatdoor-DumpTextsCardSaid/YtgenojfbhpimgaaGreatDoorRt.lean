/- The reference's text of a line. -/
import Derived.Test.YtgenojfbhpimgaaGreatDoorRn
namespace Go.Proofs.YtgenojfbhpimgaaGreatDoor
open Go.RowKit Go.Ab
theorem refT_eq (l : Ln) (b : LnB l) (h : l.right = true) (c : Nat) (hc : l.cl = (c : Int)) : l.text = (((((keyTextL l.pr l.s l.d l.sp l.dp ++ (if l.sd = 0 then inR else outR)) ++ clsOf (c : Int)) ++ (if l.rp then repR else [])) ++ (if l.ss then assR else [])) ++ deadR ++ dec l.dl ++ seenR) ++ dec l.sn := by
  rw [text_flat l b h, hc]
  have hsd : (32 :: sideW l.sd ++ [32]) = if l.sd = 0 then inR else outR := by
    unfold sideW
    split <;> rfl
  rw [← hsd]
  simp
set_option maxHeartbeats 16000000 in
set_option maxRecDepth 100000 in
theorem rtext38_any (l : Ln) (w : World) (b : LnB l) (h : l.right = true) : Gives Tryz.prog 41 #[l.val] w (.string ⟨l.text.toArray⟩) := by
  obtain ⟨h1, h2, h3, h4, h5⟩ := lnRight_parts h
  obtain ⟨c, hc⟩ : ∃ c : Nat, l.cl = (c : Int) := ⟨l.cl.toNat, by have := b.cl0; omega⟩
  have hT := refT_eq l b h c hc
  have hk := fun W => refKeyText_any l.pr l.s l.d l.sp l.dp W b.key
  have hd1 := fun W => refDecimal_any l.dl W h4 b.dl1
  have hd2 := fun W => refDecimal_any l.sn W h5 b.sn1
  have hn := fun W n h => rnames_any W c (by omega) n h
  have c9 : (c : Int) < 9 := by omega
  have c0 : (0 : Int) ≤ (c : Int) := by omega
  have s0 := b.sd0
  have lK := keyT_len l.pr l.s l.d l.sp l.dp b.key.r0 b.key.r1 b.key.sp0 b.key.sp1 b.key.dp0 b.key.dp1
  have lD := dec_length l.dl (by omega) b.dl1
  have lS := dec_length l.sn (by omega) b.sn1
  have lC := cls_length (c : Int)
  have HT := Lib.hid hT
  clear hT b h h2 h3 h4 h5
  obtain ⟨pr, s, d, sp, dp, sd, cl, rp, ss, dl, sn⟩ := l
  simp only at hk hd1 hd2 hc HT s0 h1 lK lD lS
  subst hc
  generalize keyTextL pr s d sp dp = K at *
  generalize dec dl = D at *
  generalize dec sn = S at *
  generalize clsOf (c : Int) = C at *
  unfold Gives Ln.val
  rcases (by omega : sd = 0 ∨ sd = 1) with rfl | rfl <;> cases rp <;> cases ss
  all_goals
    go_enter Tryz.func41, Tryz.ntmps41
    go_upto_region 5 with (go_at_call 77; refine (hk _).mono ?_; rintro e w' ⟨rfl, xk, rfl⟩)
    go_region_with (go_at_call 75; refine (hn _ _ inferInstance).mono ?_; rintro e w' ⟨rfl, xn, hcn, hlt, rfl⟩)
    all_goals
      go_upto_region 10 with fail
      (refine wp_region_ext (by kernel_rfl) (by kernel_rfl) ?_; (repeat (go_big_quiet_step ((go_at_call 78; first | (with_reducible exact (hd1 _).ext) | (with_reducible exact (hd2 _).ext))))); refine wpQuiet_nil ?_; rintro _ ⟨y, rfl⟩)
      go_wp2_with fail
      go_ret
      refine ⟨?_, mkI⟩
      rw [HT.out]
      show Ending.returned (Value.string _) = Ending.returned (Value.string _)
      congr 2 <;> simp [ba_app, inR, outR, repR, assR, deadR, seenR]
end Go.Proofs.YtgenojfbhpimgaaGreatDoor
