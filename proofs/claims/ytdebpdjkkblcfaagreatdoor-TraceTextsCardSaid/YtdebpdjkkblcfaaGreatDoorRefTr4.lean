/- The reference of layer 41: strings that are no event. -/
import Derived.Test.YtdebpdjkkblcfaaGreatDoorRefTr3
namespace Go.Ab
open Go.RowKit Go.Proofs.YtdebpdjkkblcfaaGreatDoor
theorem reasonFrom_is (s : List UInt8) : ∀ (f i : Nat), reasonFrom s f i < i + f → namesL[reasonFrom s f i]? = some s
  | 0, i, h => by simp [reasonFrom] at h
  | f + 1, i, h => by
    rw [reasonFrom] at h ⊢
    split
    · rename_i hi; exact hi
    · rename_i hi
      rw [if_neg hi] at h
      exact reasonFrom_is s f (i + 1) (by omega)
theorem rsN_back (s : List UInt8) (h : reasonOf s < 31) : nameOf (rsN s) = s ∧ 1 ≤ rsN s ∧ rsN s < 31 := by
  have h1 : namesL[reasonOf s]? = some s := reasonFrom_is s 30 1 h
  have h2 := (reasonFrom_bd s 30 1 rfl).1
  have e : rsN s = (reasonOf s : Int) := by unfold rsN; rw [if_pos h]
  have h3 : 1 ≤ reasonOf s := h2
  rw [e]
  refine ⟨?_, by omega, by omega⟩
  unfold nameOf
  rw [if_pos (by omega)]
  have e2 : ((reasonOf s : Int)).toNat = reasonOf s := by omega
  rw [e2, h1]; rfl
/-- No right event has the text. -/
def NoEv (l : List UInt8) : Prop := ∀ e, EvB e → e.right = true → e.text ≠ l
theorem noEv_parts {l a R1 b R2 c R3 d key : List UInt8} (h : NoEv l) (h1 : cutC 32 l = (a, R1, true)) (h2 : cutC 32 R1 = (b, R2, true)) (h3 : cutC 32 R2 = (c, R3, true)) (h4 : cutC 32 R3 = (d, key, true)) (e : Ev) (eb : EvB e) (er : e.right = true)
    (e1 : dec e.n = a) (e2 : wordOf e.sd = b) (e3 : verdictOf e.r = c) (e4 : nameOf e.r = d) (e5 : evKey e.r e.pr e.s e.d e.sp e.dp = key) : False := by
  refine h e eb er ?_
  have q : ∀ {x y z : List UInt8}, cutC 32 x = (y, z, true) → x = y ++ 32 :: z := fun {x y z} hq => by
    rcases cutC_back 32 x with ⟨_, hx⟩ | ⟨hx, _⟩
    · rw [hq] at hx; exact hx
    · rw [hq] at hx; cases hx
  rw [text_cons, e1, e2, e3, e4, e5, ← q h4, ← q h3, ← q h2, ← q h1]
end Go.Ab
namespace Go.Proofs.YtdebpdjkkblcfaaGreatDoor
open Go.RowKit Go.Ab
set_option maxHeartbeats 64000000 in
set_option maxRecDepth 100000 in
theorem rread_no (l : List UInt8) (w : World) (g : Good w) (hl : l.length < 4294967281) (hno : NoEv l) : Gives Tryz.prog 22 #[.string ⟨l.toArray⟩] w (.tuple #[Ev.zero.val, .int .i64 410]) := by
  have ln1 := (cutC_len 32 l).2
  have la := (cutC_len 32 l).1
  have hc1 := fun w => rcut_any l w hl
  obtain ⟨a, R1, k1, h1⟩ : ∃ a R1 k1, cutC 32 l = (a, R1, k1) := ⟨_, _, _, rfl⟩
  rw [h1] at hc1 ln1 la
  simp only at hc1 ln1 la
  have ln2 := (cutC_len 32 R1).2
  have hc2 := fun w => rcut_any R1 w (by omega)
  obtain ⟨b, R2, k2, h2⟩ : ∃ u v t, cutC 32 R1 = (u, v, t) := ⟨_, _, _, rfl⟩
  rw [h2] at hc2 ln2
  simp only at hc2 ln2
  have ln3 := (cutC_len 32 R2).2
  have hc3 := fun w => rcut_any R2 w (by omega)
  obtain ⟨c, R3, k3, h3⟩ : ∃ u v t, cutC 32 R2 = (u, v, t) := ⟨_, _, _, rfl⟩
  rw [h3] at hc3 ln3
  simp only at hc3 ln3
  have ln4 := (cutC_len 32 R3).2
  have hc4 := fun w => rcut_any R3 w (by omega)
  obtain ⟨d, key, k4, h4⟩ : ∃ u v t, cutC 32 R3 = (u, v, t) := ⟨_, _, _, rfl⟩
  rw [h4] at hc4 ln4
  simp only at hc4 ln4
  have hdc := Lib.hid (fun w => rdecimal_any a w (by omega))
  have hrs := fun w => rreason_any d w
  have hky := fun w => (refReadKey_any key w (by omega)).cast (kv_eq key)
  have kb := kv_bounds key
  have rb := rsN_bd d
  have H1 := Lib.hid h1; have H2 := Lib.hid h2; have H3 := Lib.hid h3; have H4 := Lib.hid h4
  have HN := Lib.hid hno
  have HK := Lib.hid kb
  clear h1 h2 h3 h4 hno ln1 ln2 ln3 ln4 la kb
  unfold Gives Ev.val Ev.zero
  simp only
  go_enter Tryz.func22, Tryz.ntmps22
  go_upto_region 7 with (first
    | (go_at_call 46; (with_reducible refine (hc1 _).mono ?_); rintro e w' ⟨rfl, x1, rfl⟩)
    | (go_at_call 46; (with_reducible refine (hc2 _).mono ?_); rintro e w' ⟨rfl, x2, rfl⟩)
    | (go_at_call 46; (with_reducible refine (hc3 _).mono ?_); rintro e w' ⟨rfl, x3, rfl⟩)
    | (go_at_call 46; (with_reducible refine (hc4 _).mono ?_); rintro e w' ⟨rfl, x4, rfl⟩)
    | (go_at_call 47; refine (hdc.out _).mono ?_; rintro e w' ⟨D, rfl, hD, x5, rfl⟩))
  have HD := Lib.hid hD
  have hit : ∀ w, Good w → Gives Tryz.prog 32 #[.int .i64 D] w (.string ⟨(dec D).toArray⟩) := fun w g => itoa_any D w g HD.out.1.1 HD.out.1.2
  have hri := Lib.hid (fun (sd pr s dd sp dp : Int) w (h0 : 0 ≤ sd) (h1 : sd < 256) => rright_any D sd (rsN d) pr s dd sp dp w h0 h1 rb.1 (by omega))
  clear hc1 hc2 hc3 hc4 hdc hD
  have rb0 := rb.1
  have rb1 := rb.2
  clear rb
  cases k1
  · go_wp2_with (first
      | (go_at_call 32; refine (hit _ (g.up upI)).mono ?_; rintro e w' ⟨rfl, x6, rfl⟩)
      | (go_at_call 48; refine (hrs _).mono ?_; rintro e w' ⟨rfl, x7, rfl⟩)
      | (go_at_call 26; refine (hps _).mono ?_; rintro e w' ⟨rfl, x8, rfl⟩)
      | (go_at_call 49; refine (hky _).mono ?_; rintro e w' ⟨rfl, xk, rfl⟩)
      | (go_at_call 24; refine (hrf _).mono ?_; rintro e w' ⟨rfl, x9, rfl⟩))
    all_goals first | (exfalso; omega) | skip
    refine bodyPost_ret (v := Value.tuple #[.agg #[.int .i64 0, .int .u8 0, .int .u8 0, .int .u8 0, .int .u32 0, .int .u32 0, .int .u16 0, .int .u16 0], .int .i64 410]) (by simp [results, Tryz.results22, go_sem]) rfl ⟨rfl, mkI⟩
  · cases k2
    · go_wp2_with (first
        | (go_at_call 32; refine (hit _ (g.up upI)).mono ?_; rintro e w' ⟨rfl, x6, rfl⟩)
        | (go_at_call 48; refine (hrs _).mono ?_; rintro e w' ⟨rfl, x7, rfl⟩)
        | (go_at_call 26; refine (hps _).mono ?_; rintro e w' ⟨rfl, x8, rfl⟩)
        | (go_at_call 49; refine (hky _).mono ?_; rintro e w' ⟨rfl, xk, rfl⟩)
        | (go_at_call 24; refine (hrf _).mono ?_; rintro e w' ⟨rfl, x9, rfl⟩))
      all_goals first | (exfalso; omega) | skip
      refine bodyPost_ret (v := Value.tuple #[.agg #[.int .i64 0, .int .u8 0, .int .u8 0, .int .u8 0, .int .u32 0, .int .u32 0, .int .u16 0, .int .u16 0], .int .i64 410]) (by simp [results, Tryz.results22, go_sem]) rfl ⟨rfl, mkI⟩
    · cases k3
      · go_wp2_with (first
          | (go_at_call 32; refine (hit _ (g.up upI)).mono ?_; rintro e w' ⟨rfl, x6, rfl⟩)
          | (go_at_call 48; refine (hrs _).mono ?_; rintro e w' ⟨rfl, x7, rfl⟩)
          | (go_at_call 26; refine (hps _).mono ?_; rintro e w' ⟨rfl, x8, rfl⟩)
          | (go_at_call 49; refine (hky _).mono ?_; rintro e w' ⟨rfl, xk, rfl⟩)
          | (go_at_call 24; refine (hrf _).mono ?_; rintro e w' ⟨rfl, x9, rfl⟩))
        all_goals first | (exfalso; omega) | skip
        refine bodyPost_ret (v := Value.tuple #[.agg #[.int .i64 0, .int .u8 0, .int .u8 0, .int .u8 0, .int .u32 0, .int .u32 0, .int .u16 0, .int .u16 0], .int .i64 410]) (by simp [results, Tryz.results22, go_sem]) rfl ⟨rfl, mkI⟩
      · cases k4
        · go_wp2_with (first
            | (go_at_call 32; refine (hit _ (g.up upI)).mono ?_; rintro e w' ⟨rfl, x6, rfl⟩)
            | (go_at_call 48; refine (hrs _).mono ?_; rintro e w' ⟨rfl, x7, rfl⟩)
            | (go_at_call 26; refine (hps _).mono ?_; rintro e w' ⟨rfl, x8, rfl⟩)
            | (go_at_call 49; refine (hky _).mono ?_; rintro e w' ⟨rfl, xk, rfl⟩)
            | (go_at_call 24; refine (hrf _).mono ?_; rintro e w' ⟨rfl, x9, rfl⟩))
          all_goals first | (exfalso; omega) | skip
          refine bodyPost_ret (v := Value.tuple #[.agg #[.int .i64 0, .int .u8 0, .int .u8 0, .int .u8 0, .int .u32 0, .int .u32 0, .int .u16 0, .int .u16 0], .int .i64 410]) (by simp [results, Tryz.results22, go_sem]) rfl ⟨rfl, mkI⟩
        · by_cases hia : dec D = a
          · have HA := Lib.hid hia
            have hiab : (dec D == a) = true := by simpa using hia
            clear hia
            by_cases hin : b = [105, 110]
            · have HB := Lib.hid (show wordOf 0 = b by rw [hin]; rfl)
              subst hin
              by_cases hre' : reasonOf d < 31
              · have hre := Lib.hid hre'
                have e0 : rsE d = 0 := by unfold rsE; rw [if_pos hre']
                rw [e0] at hrs
                clear e0 hre'
                have hps := fun w => rpass_any (rsN d) w
                cases hpb : passB (rsN d)
                · rw [hpb] at hps
                  by_cases hcp : c = [100, 114, 111, 112]
                  · have HV := Lib.hid (show verdictOf (rsN d) = c by unfold verdictOf; rw [hpb, hcp]; rfl)
                    clear hpb
                    subst hcp
                    by_cases h20 : rsN d < 20
                    · by_cases hk : key = [45]
                      · subst hk
                        cases hR : rightEv D 0 (rsN d) 0 0 0 0 0
                        · have hrf := fun w => (hri.out 0 0 0 0 0 0 w (by omega) (by omega)).cast (by rw [hR])
                          clear hR
                          go_wp2_with (first
                            | (go_at_call 32; refine (hit _ (g.up upI)).mono ?_; rintro e w' ⟨rfl, x6, rfl⟩)
                            | (go_at_call 48; refine (hrs _).mono ?_; rintro e w' ⟨rfl, x7, rfl⟩)
                            | (go_at_call 26; refine (hps _).mono ?_; rintro e w' ⟨rfl, x8, rfl⟩)
                            | (go_at_call 49; refine (hky _).mono ?_; rintro e w' ⟨rfl, xk, rfl⟩)
                            | (go_at_call 24; refine (hrf _).mono ?_; rintro e w' ⟨rfl, x9, rfl⟩))
                          all_goals first | (exfalso; omega) | skip
                          refine bodyPost_ret (v := Value.tuple #[.agg #[.int .i64 0, .int .u8 0, .int .u8 0, .int .u8 0, .int .u32 0, .int .u32 0, .int .u16 0, .int .u16 0], .int .i64 410]) (by simp [results, Tryz.results22, go_sem]) rfl ⟨rfl, mkI⟩
                        · exfalso
                          refine noEv_parts HN.out H1.out H2.out H3.out H4.out ⟨D, 0, rsN d, 0, 0, 0, 0, 0⟩ ⟨HD.out.1.1, HD.out.1.2, by show (0 : Int) ≤ 0; omega, by show (0 : Int) < 256; omega, rb0, by show rsN d < 256; omega, ⟨by show (0 : Int) ≤ 0; omega, by show (0 : Int) < 256; omega, by show (0 : Int) ≤ 0; omega, by show (0 : Int) < 4294967296; omega, by show (0 : Int) ≤ 0; omega, by show (0 : Int) < 4294967296; omega, by show (0 : Int) ≤ 0; omega, by show (0 : Int) < 65536; omega, by show (0 : Int) ≤ 0; omega, by show (0 : Int) < 65536; omega⟩⟩ hR HA.out HB.out HV.out (rsN_back d hre.out).1 ?_
                          unfold evKey
                          rw [if_pos h20]
                      · have hkb : (key == [45]) = false := by simpa using hk
                        clear hk
                        go_wp2_with (first
                          | (go_at_call 32; refine (hit _ (g.up upI)).mono ?_; rintro e w' ⟨rfl, x6, rfl⟩)
                          | (go_at_call 48; refine (hrs _).mono ?_; rintro e w' ⟨rfl, x7, rfl⟩)
                          | (go_at_call 26; refine (hps _).mono ?_; rintro e w' ⟨rfl, x8, rfl⟩)
                          | (go_at_call 49; refine (hky _).mono ?_; rintro e w' ⟨rfl, xk, rfl⟩)
                          | (go_at_call 24; refine (hrf _).mono ?_; rintro e w' ⟨rfl, x9, rfl⟩))
                        all_goals first | (exfalso; omega) | skip
                        refine bodyPost_ret (v := Value.tuple #[.agg #[.int .i64 0, .int .u8 0, .int .u8 0, .int .u8 0, .int .u32 0, .int .u32 0, .int .u16 0, .int .u16 0], .int .i64 410]) (by simp [results, Tryz.results22, go_sem]) rfl ⟨rfl, mkI⟩
                    · have h20' : 20 ≤ rsN d := by omega
                      clear h20
                      cases hB : kvB key
                      · rw [hB] at hky
                        clear hB
                        go_wp2_with (first
                          | (go_at_call 32; refine (hit _ (g.up upI)).mono ?_; rintro e w' ⟨rfl, x6, rfl⟩)
                          | (go_at_call 48; refine (hrs _).mono ?_; rintro e w' ⟨rfl, x7, rfl⟩)
                          | (go_at_call 26; refine (hps _).mono ?_; rintro e w' ⟨rfl, x8, rfl⟩)
                          | (go_at_call 49; refine (hky _).mono ?_; rintro e w' ⟨rfl, xk, rfl⟩)
                          | (go_at_call 24; refine (hrf _).mono ?_; rintro e w' ⟨rfl, x9, rfl⟩))
                        all_goals first | (exfalso; omega) | skip
                        refine bodyPost_ret (v := Value.tuple #[.agg #[.int .i64 0, .int .u8 0, .int .u8 0, .int .u8 0, .int .u32 0, .int .u32 0, .int .u16 0, .int .u16 0], .int .i64 410]) (by simp [results, Tryz.results22, go_sem]) rfl ⟨rfl, mkI⟩
                      · have hky2 : ∀ w, Gives Tryz.prog 49 #[.string ⟨key.toArray⟩] w (.tuple #[.agg #[.int .u8 (kPr key), .int .u32 (kS key), .int .u32 (kD key), .int .u16 (kSp key), .int .u16 (kDp key)], .int .i64 0]) := fun w => (hky w).cast (by rw [hB]; rfl)
                        have kb := HK.out
                        rw [hB] at kb
                        have kb' : KeyB (kPr key) (kS key) (kD key) (kSp key) (kDp key) := kb
                        have hkt : keyTextL (kPr key) (kS key) (kD key) (kSp key) (kDp key) = key := by unfold kvB kText at hB; simpa using hB
                        have HT := Lib.hid hkt
                        have HKB := Lib.hid kb'
                        clear hky hB kb kb' hkt HK
                        generalize kPr key = q1 at *
                        generalize kS key = q2 at *
                        generalize kD key = q3 at *
                        generalize kSp key = q4 at *
                        generalize kDp key = q5 at *
                        have hky := hky2
                        clear hky2
                        cases hR : rightEv D 0 (rsN d) q1 q2 q3 q4 q5
                        · have hrf := fun w => (hri.out 0 q1 q2 q3 q4 q5 w (by omega) (by omega)).cast (by rw [hR])
                          clear hR
                          go_wp2_with (first
                            | (go_at_call 32; refine (hit _ (g.up upI)).mono ?_; rintro e w' ⟨rfl, x6, rfl⟩)
                            | (go_at_call 48; refine (hrs _).mono ?_; rintro e w' ⟨rfl, x7, rfl⟩)
                            | (go_at_call 26; refine (hps _).mono ?_; rintro e w' ⟨rfl, x8, rfl⟩)
                            | (go_at_call 49; refine (hky _).mono ?_; rintro e w' ⟨rfl, xk, rfl⟩)
                            | (go_at_call 24; refine (hrf _).mono ?_; rintro e w' ⟨rfl, x9, rfl⟩))
                          all_goals first | (exfalso; omega) | skip
                          refine bodyPost_ret (v := Value.tuple #[.agg #[.int .i64 0, .int .u8 0, .int .u8 0, .int .u8 0, .int .u32 0, .int .u32 0, .int .u16 0, .int .u16 0], .int .i64 410]) (by simp [results, Tryz.results22, go_sem]) rfl ⟨rfl, mkI⟩
                        · exfalso
                          refine noEv_parts HN.out H1.out H2.out H3.out H4.out ⟨D, 0, rsN d, q1, q2, q3, q4, q5⟩ ⟨HD.out.1.1, HD.out.1.2, by show (0 : Int) ≤ 0; omega, by show (0 : Int) < 256; omega, rb0, by show rsN d < 256; omega, HKB.out⟩ hR HA.out HB.out HV.out (rsN_back d hre.out).1 ?_
                          unfold evKey
                          rw [if_neg (show ¬ rsN d < 20 by omega)]
                          exact HT.out
                  · have hcb : (c == [100, 114, 111, 112]) = false := by simpa using hcp
                    clear hpb hcp
                    by_cases hc2 : c = [112, 97, 115, 115]
                    · subst hc2
                      go_wp2_with (first
                        | (go_at_call 32; refine (hit _ (g.up upI)).mono ?_; rintro e w' ⟨rfl, x6, rfl⟩)
                        | (go_at_call 48; refine (hrs _).mono ?_; rintro e w' ⟨rfl, x7, rfl⟩)
                        | (go_at_call 26; refine (hps _).mono ?_; rintro e w' ⟨rfl, x8, rfl⟩)
                        | (go_at_call 49; refine (hky _).mono ?_; rintro e w' ⟨rfl, xk, rfl⟩)
                        | (go_at_call 24; refine (hrf _).mono ?_; rintro e w' ⟨rfl, x9, rfl⟩))
                      all_goals first | (exfalso; omega) | skip
                      refine bodyPost_ret (v := Value.tuple #[.agg #[.int .i64 0, .int .u8 0, .int .u8 0, .int .u8 0, .int .u32 0, .int .u32 0, .int .u16 0, .int .u16 0], .int .i64 410]) (by simp [results, Tryz.results22, go_sem]) rfl ⟨rfl, mkI⟩
                    · have hcb2 : (c == [112, 97, 115, 115]) = false := by simpa using hc2
                      clear hc2
                      go_wp2_with (first
                        | (go_at_call 32; refine (hit _ (g.up upI)).mono ?_; rintro e w' ⟨rfl, x6, rfl⟩)
                        | (go_at_call 48; refine (hrs _).mono ?_; rintro e w' ⟨rfl, x7, rfl⟩)
                        | (go_at_call 26; refine (hps _).mono ?_; rintro e w' ⟨rfl, x8, rfl⟩)
                        | (go_at_call 49; refine (hky _).mono ?_; rintro e w' ⟨rfl, xk, rfl⟩)
                        | (go_at_call 24; refine (hrf _).mono ?_; rintro e w' ⟨rfl, x9, rfl⟩))
                      all_goals first | (exfalso; omega) | skip
                      refine bodyPost_ret (v := Value.tuple #[.agg #[.int .i64 0, .int .u8 0, .int .u8 0, .int .u8 0, .int .u32 0, .int .u32 0, .int .u16 0, .int .u16 0], .int .i64 410]) (by simp [results, Tryz.results22, go_sem]) rfl ⟨rfl, mkI⟩
                · rw [hpb] at hps
                  by_cases hcp : c = [112, 97, 115, 115]
                  · have HV := Lib.hid (show verdictOf (rsN d) = c by unfold verdictOf; rw [hpb, hcp]; rfl)
                    clear hpb
                    subst hcp
                    by_cases h20 : rsN d < 20
                    · by_cases hk : key = [45]
                      · subst hk
                        cases hR : rightEv D 0 (rsN d) 0 0 0 0 0
                        · have hrf := fun w => (hri.out 0 0 0 0 0 0 w (by omega) (by omega)).cast (by rw [hR])
                          clear hR
                          go_wp2_with (first
                            | (go_at_call 32; refine (hit _ (g.up upI)).mono ?_; rintro e w' ⟨rfl, x6, rfl⟩)
                            | (go_at_call 48; refine (hrs _).mono ?_; rintro e w' ⟨rfl, x7, rfl⟩)
                            | (go_at_call 26; refine (hps _).mono ?_; rintro e w' ⟨rfl, x8, rfl⟩)
                            | (go_at_call 49; refine (hky _).mono ?_; rintro e w' ⟨rfl, xk, rfl⟩)
                            | (go_at_call 24; refine (hrf _).mono ?_; rintro e w' ⟨rfl, x9, rfl⟩))
                          all_goals first | (exfalso; omega) | skip
                          refine bodyPost_ret (v := Value.tuple #[.agg #[.int .i64 0, .int .u8 0, .int .u8 0, .int .u8 0, .int .u32 0, .int .u32 0, .int .u16 0, .int .u16 0], .int .i64 410]) (by simp [results, Tryz.results22, go_sem]) rfl ⟨rfl, mkI⟩
                        · exfalso
                          refine noEv_parts HN.out H1.out H2.out H3.out H4.out ⟨D, 0, rsN d, 0, 0, 0, 0, 0⟩ ⟨HD.out.1.1, HD.out.1.2, by show (0 : Int) ≤ 0; omega, by show (0 : Int) < 256; omega, rb0, by show rsN d < 256; omega, ⟨by show (0 : Int) ≤ 0; omega, by show (0 : Int) < 256; omega, by show (0 : Int) ≤ 0; omega, by show (0 : Int) < 4294967296; omega, by show (0 : Int) ≤ 0; omega, by show (0 : Int) < 4294967296; omega, by show (0 : Int) ≤ 0; omega, by show (0 : Int) < 65536; omega, by show (0 : Int) ≤ 0; omega, by show (0 : Int) < 65536; omega⟩⟩ hR HA.out HB.out HV.out (rsN_back d hre.out).1 ?_
                          unfold evKey
                          rw [if_pos h20]
                      · have hkb : (key == [45]) = false := by simpa using hk
                        clear hk
                        go_wp2_with (first
                          | (go_at_call 32; refine (hit _ (g.up upI)).mono ?_; rintro e w' ⟨rfl, x6, rfl⟩)
                          | (go_at_call 48; refine (hrs _).mono ?_; rintro e w' ⟨rfl, x7, rfl⟩)
                          | (go_at_call 26; refine (hps _).mono ?_; rintro e w' ⟨rfl, x8, rfl⟩)
                          | (go_at_call 49; refine (hky _).mono ?_; rintro e w' ⟨rfl, xk, rfl⟩)
                          | (go_at_call 24; refine (hrf _).mono ?_; rintro e w' ⟨rfl, x9, rfl⟩))
                        all_goals first | (exfalso; omega) | skip
                        refine bodyPost_ret (v := Value.tuple #[.agg #[.int .i64 0, .int .u8 0, .int .u8 0, .int .u8 0, .int .u32 0, .int .u32 0, .int .u16 0, .int .u16 0], .int .i64 410]) (by simp [results, Tryz.results22, go_sem]) rfl ⟨rfl, mkI⟩
                    · have h20' : 20 ≤ rsN d := by omega
                      clear h20
                      cases hB : kvB key
                      · rw [hB] at hky
                        clear hB
                        go_wp2_with (first
                          | (go_at_call 32; refine (hit _ (g.up upI)).mono ?_; rintro e w' ⟨rfl, x6, rfl⟩)
                          | (go_at_call 48; refine (hrs _).mono ?_; rintro e w' ⟨rfl, x7, rfl⟩)
                          | (go_at_call 26; refine (hps _).mono ?_; rintro e w' ⟨rfl, x8, rfl⟩)
                          | (go_at_call 49; refine (hky _).mono ?_; rintro e w' ⟨rfl, xk, rfl⟩)
                          | (go_at_call 24; refine (hrf _).mono ?_; rintro e w' ⟨rfl, x9, rfl⟩))
                        all_goals first | (exfalso; omega) | skip
                        refine bodyPost_ret (v := Value.tuple #[.agg #[.int .i64 0, .int .u8 0, .int .u8 0, .int .u8 0, .int .u32 0, .int .u32 0, .int .u16 0, .int .u16 0], .int .i64 410]) (by simp [results, Tryz.results22, go_sem]) rfl ⟨rfl, mkI⟩
                      · have hky2 : ∀ w, Gives Tryz.prog 49 #[.string ⟨key.toArray⟩] w (.tuple #[.agg #[.int .u8 (kPr key), .int .u32 (kS key), .int .u32 (kD key), .int .u16 (kSp key), .int .u16 (kDp key)], .int .i64 0]) := fun w => (hky w).cast (by rw [hB]; rfl)
                        have kb := HK.out
                        rw [hB] at kb
                        have kb' : KeyB (kPr key) (kS key) (kD key) (kSp key) (kDp key) := kb
                        have hkt : keyTextL (kPr key) (kS key) (kD key) (kSp key) (kDp key) = key := by unfold kvB kText at hB; simpa using hB
                        have HT := Lib.hid hkt
                        have HKB := Lib.hid kb'
                        clear hky hB kb kb' hkt HK
                        generalize kPr key = q1 at *
                        generalize kS key = q2 at *
                        generalize kD key = q3 at *
                        generalize kSp key = q4 at *
                        generalize kDp key = q5 at *
                        have hky := hky2
                        clear hky2
                        cases hR : rightEv D 0 (rsN d) q1 q2 q3 q4 q5
                        · have hrf := fun w => (hri.out 0 q1 q2 q3 q4 q5 w (by omega) (by omega)).cast (by rw [hR])
                          clear hR
                          go_wp2_with (first
                            | (go_at_call 32; refine (hit _ (g.up upI)).mono ?_; rintro e w' ⟨rfl, x6, rfl⟩)
                            | (go_at_call 48; refine (hrs _).mono ?_; rintro e w' ⟨rfl, x7, rfl⟩)
                            | (go_at_call 26; refine (hps _).mono ?_; rintro e w' ⟨rfl, x8, rfl⟩)
                            | (go_at_call 49; refine (hky _).mono ?_; rintro e w' ⟨rfl, xk, rfl⟩)
                            | (go_at_call 24; refine (hrf _).mono ?_; rintro e w' ⟨rfl, x9, rfl⟩))
                          all_goals first | (exfalso; omega) | skip
                          refine bodyPost_ret (v := Value.tuple #[.agg #[.int .i64 0, .int .u8 0, .int .u8 0, .int .u8 0, .int .u32 0, .int .u32 0, .int .u16 0, .int .u16 0], .int .i64 410]) (by simp [results, Tryz.results22, go_sem]) rfl ⟨rfl, mkI⟩
                        · exfalso
                          refine noEv_parts HN.out H1.out H2.out H3.out H4.out ⟨D, 0, rsN d, q1, q2, q3, q4, q5⟩ ⟨HD.out.1.1, HD.out.1.2, by show (0 : Int) ≤ 0; omega, by show (0 : Int) < 256; omega, rb0, by show rsN d < 256; omega, HKB.out⟩ hR HA.out HB.out HV.out (rsN_back d hre.out).1 ?_
                          unfold evKey
                          rw [if_neg (show ¬ rsN d < 20 by omega)]
                          exact HT.out
                  · have hcb : (c == [112, 97, 115, 115]) = false := by simpa using hcp
                    clear hpb hcp
                    go_wp2_with (first
                      | (go_at_call 32; refine (hit _ (g.up upI)).mono ?_; rintro e w' ⟨rfl, x6, rfl⟩)
                      | (go_at_call 48; refine (hrs _).mono ?_; rintro e w' ⟨rfl, x7, rfl⟩)
                      | (go_at_call 26; refine (hps _).mono ?_; rintro e w' ⟨rfl, x8, rfl⟩)
                      | (go_at_call 49; refine (hky _).mono ?_; rintro e w' ⟨rfl, xk, rfl⟩)
                      | (go_at_call 24; refine (hrf _).mono ?_; rintro e w' ⟨rfl, x9, rfl⟩))
                    all_goals first | (exfalso; omega) | skip
                    refine bodyPost_ret (v := Value.tuple #[.agg #[.int .i64 0, .int .u8 0, .int .u8 0, .int .u8 0, .int .u32 0, .int .u32 0, .int .u16 0, .int .u16 0], .int .i64 410]) (by simp [results, Tryz.results22, go_sem]) rfl ⟨rfl, mkI⟩
              · have e6 : rsE d = 6 := by unfold rsE; rw [if_neg hre']
                rw [e6] at hrs
                clear e6 hre'
                go_wp2_with (first
                  | (go_at_call 32; refine (hit _ (g.up upI)).mono ?_; rintro e w' ⟨rfl, x6, rfl⟩)
                  | (go_at_call 48; refine (hrs _).mono ?_; rintro e w' ⟨rfl, x7, rfl⟩)
                  | (go_at_call 26; refine (hps _).mono ?_; rintro e w' ⟨rfl, x8, rfl⟩)
                  | (go_at_call 49; refine (hky _).mono ?_; rintro e w' ⟨rfl, xk, rfl⟩)
                  | (go_at_call 24; refine (hrf _).mono ?_; rintro e w' ⟨rfl, x9, rfl⟩))
                all_goals first | (exfalso; omega) | skip
                refine bodyPost_ret (v := Value.tuple #[.agg #[.int .i64 0, .int .u8 0, .int .u8 0, .int .u8 0, .int .u32 0, .int .u32 0, .int .u16 0, .int .u16 0], .int .i64 410]) (by simp [results, Tryz.results22, go_sem]) rfl ⟨rfl, mkI⟩
            · have hinb : (b == [105, 110]) = false := by simpa using hin
              clear hin
              by_cases hout : b = [111, 117, 116]
              · have HB := Lib.hid (show wordOf 1 = b by rw [hout]; rfl)
                subst hout
                by_cases hre' : reasonOf d < 31
                · have hre := Lib.hid hre'
                  have e0 : rsE d = 0 := by unfold rsE; rw [if_pos hre']
                  rw [e0] at hrs
                  clear e0 hre'
                  have hps := fun w => rpass_any (rsN d) w
                  cases hpb : passB (rsN d)
                  · rw [hpb] at hps
                    by_cases hcp : c = [100, 114, 111, 112]
                    · have HV := Lib.hid (show verdictOf (rsN d) = c by unfold verdictOf; rw [hpb, hcp]; rfl)
                      clear hpb
                      subst hcp
                      by_cases h20 : rsN d < 20
                      · by_cases hk : key = [45]
                        · subst hk
                          cases hR : rightEv D 1 (rsN d) 0 0 0 0 0
                          · have hrf := fun w => (hri.out 1 0 0 0 0 0 w (by omega) (by omega)).cast (by rw [hR])
                            clear hR
                            go_wp2_with (first
                              | (go_at_call 32; refine (hit _ (g.up upI)).mono ?_; rintro e w' ⟨rfl, x6, rfl⟩)
                              | (go_at_call 48; refine (hrs _).mono ?_; rintro e w' ⟨rfl, x7, rfl⟩)
                              | (go_at_call 26; refine (hps _).mono ?_; rintro e w' ⟨rfl, x8, rfl⟩)
                              | (go_at_call 49; refine (hky _).mono ?_; rintro e w' ⟨rfl, xk, rfl⟩)
                              | (go_at_call 24; refine (hrf _).mono ?_; rintro e w' ⟨rfl, x9, rfl⟩))
                            all_goals first | (exfalso; omega) | skip
                            refine bodyPost_ret (v := Value.tuple #[.agg #[.int .i64 0, .int .u8 0, .int .u8 0, .int .u8 0, .int .u32 0, .int .u32 0, .int .u16 0, .int .u16 0], .int .i64 410]) (by simp [results, Tryz.results22, go_sem]) rfl ⟨rfl, mkI⟩
                          · exfalso
                            refine noEv_parts HN.out H1.out H2.out H3.out H4.out ⟨D, 1, rsN d, 0, 0, 0, 0, 0⟩ ⟨HD.out.1.1, HD.out.1.2, by show (0 : Int) ≤ 1; omega, by show (1 : Int) < 256; omega, rb0, by show rsN d < 256; omega, ⟨by show (0 : Int) ≤ 0; omega, by show (0 : Int) < 256; omega, by show (0 : Int) ≤ 0; omega, by show (0 : Int) < 4294967296; omega, by show (0 : Int) ≤ 0; omega, by show (0 : Int) < 4294967296; omega, by show (0 : Int) ≤ 0; omega, by show (0 : Int) < 65536; omega, by show (0 : Int) ≤ 0; omega, by show (0 : Int) < 65536; omega⟩⟩ hR HA.out HB.out HV.out (rsN_back d hre.out).1 ?_
                            unfold evKey
                            rw [if_pos h20]
                        · have hkb : (key == [45]) = false := by simpa using hk
                          clear hk
                          go_wp2_with (first
                            | (go_at_call 32; refine (hit _ (g.up upI)).mono ?_; rintro e w' ⟨rfl, x6, rfl⟩)
                            | (go_at_call 48; refine (hrs _).mono ?_; rintro e w' ⟨rfl, x7, rfl⟩)
                            | (go_at_call 26; refine (hps _).mono ?_; rintro e w' ⟨rfl, x8, rfl⟩)
                            | (go_at_call 49; refine (hky _).mono ?_; rintro e w' ⟨rfl, xk, rfl⟩)
                            | (go_at_call 24; refine (hrf _).mono ?_; rintro e w' ⟨rfl, x9, rfl⟩))
                          all_goals first | (exfalso; omega) | skip
                          refine bodyPost_ret (v := Value.tuple #[.agg #[.int .i64 0, .int .u8 0, .int .u8 0, .int .u8 0, .int .u32 0, .int .u32 0, .int .u16 0, .int .u16 0], .int .i64 410]) (by simp [results, Tryz.results22, go_sem]) rfl ⟨rfl, mkI⟩
                      · have h20' : 20 ≤ rsN d := by omega
                        clear h20
                        cases hB : kvB key
                        · rw [hB] at hky
                          clear hB
                          go_wp2_with (first
                            | (go_at_call 32; refine (hit _ (g.up upI)).mono ?_; rintro e w' ⟨rfl, x6, rfl⟩)
                            | (go_at_call 48; refine (hrs _).mono ?_; rintro e w' ⟨rfl, x7, rfl⟩)
                            | (go_at_call 26; refine (hps _).mono ?_; rintro e w' ⟨rfl, x8, rfl⟩)
                            | (go_at_call 49; refine (hky _).mono ?_; rintro e w' ⟨rfl, xk, rfl⟩)
                            | (go_at_call 24; refine (hrf _).mono ?_; rintro e w' ⟨rfl, x9, rfl⟩))
                          all_goals first | (exfalso; omega) | skip
                          refine bodyPost_ret (v := Value.tuple #[.agg #[.int .i64 0, .int .u8 0, .int .u8 0, .int .u8 0, .int .u32 0, .int .u32 0, .int .u16 0, .int .u16 0], .int .i64 410]) (by simp [results, Tryz.results22, go_sem]) rfl ⟨rfl, mkI⟩
                        · have hky2 : ∀ w, Gives Tryz.prog 49 #[.string ⟨key.toArray⟩] w (.tuple #[.agg #[.int .u8 (kPr key), .int .u32 (kS key), .int .u32 (kD key), .int .u16 (kSp key), .int .u16 (kDp key)], .int .i64 0]) := fun w => (hky w).cast (by rw [hB]; rfl)
                          have kb := HK.out
                          rw [hB] at kb
                          have kb' : KeyB (kPr key) (kS key) (kD key) (kSp key) (kDp key) := kb
                          have hkt : keyTextL (kPr key) (kS key) (kD key) (kSp key) (kDp key) = key := by unfold kvB kText at hB; simpa using hB
                          have HT := Lib.hid hkt
                          have HKB := Lib.hid kb'
                          clear hky hB kb kb' hkt HK
                          generalize kPr key = q1 at *
                          generalize kS key = q2 at *
                          generalize kD key = q3 at *
                          generalize kSp key = q4 at *
                          generalize kDp key = q5 at *
                          have hky := hky2
                          clear hky2
                          cases hR : rightEv D 1 (rsN d) q1 q2 q3 q4 q5
                          · have hrf := fun w => (hri.out 1 q1 q2 q3 q4 q5 w (by omega) (by omega)).cast (by rw [hR])
                            clear hR
                            go_wp2_with (first
                              | (go_at_call 32; refine (hit _ (g.up upI)).mono ?_; rintro e w' ⟨rfl, x6, rfl⟩)
                              | (go_at_call 48; refine (hrs _).mono ?_; rintro e w' ⟨rfl, x7, rfl⟩)
                              | (go_at_call 26; refine (hps _).mono ?_; rintro e w' ⟨rfl, x8, rfl⟩)
                              | (go_at_call 49; refine (hky _).mono ?_; rintro e w' ⟨rfl, xk, rfl⟩)
                              | (go_at_call 24; refine (hrf _).mono ?_; rintro e w' ⟨rfl, x9, rfl⟩))
                            all_goals first | (exfalso; omega) | skip
                            refine bodyPost_ret (v := Value.tuple #[.agg #[.int .i64 0, .int .u8 0, .int .u8 0, .int .u8 0, .int .u32 0, .int .u32 0, .int .u16 0, .int .u16 0], .int .i64 410]) (by simp [results, Tryz.results22, go_sem]) rfl ⟨rfl, mkI⟩
                          · exfalso
                            refine noEv_parts HN.out H1.out H2.out H3.out H4.out ⟨D, 1, rsN d, q1, q2, q3, q4, q5⟩ ⟨HD.out.1.1, HD.out.1.2, by show (0 : Int) ≤ 1; omega, by show (1 : Int) < 256; omega, rb0, by show rsN d < 256; omega, HKB.out⟩ hR HA.out HB.out HV.out (rsN_back d hre.out).1 ?_
                            unfold evKey
                            rw [if_neg (show ¬ rsN d < 20 by omega)]
                            exact HT.out
                    · have hcb : (c == [100, 114, 111, 112]) = false := by simpa using hcp
                      clear hpb hcp
                      by_cases hc2 : c = [112, 97, 115, 115]
                      · subst hc2
                        go_wp2_with (first
                          | (go_at_call 32; refine (hit _ (g.up upI)).mono ?_; rintro e w' ⟨rfl, x6, rfl⟩)
                          | (go_at_call 48; refine (hrs _).mono ?_; rintro e w' ⟨rfl, x7, rfl⟩)
                          | (go_at_call 26; refine (hps _).mono ?_; rintro e w' ⟨rfl, x8, rfl⟩)
                          | (go_at_call 49; refine (hky _).mono ?_; rintro e w' ⟨rfl, xk, rfl⟩)
                          | (go_at_call 24; refine (hrf _).mono ?_; rintro e w' ⟨rfl, x9, rfl⟩))
                        all_goals first | (exfalso; omega) | skip
                        refine bodyPost_ret (v := Value.tuple #[.agg #[.int .i64 0, .int .u8 0, .int .u8 0, .int .u8 0, .int .u32 0, .int .u32 0, .int .u16 0, .int .u16 0], .int .i64 410]) (by simp [results, Tryz.results22, go_sem]) rfl ⟨rfl, mkI⟩
                      · have hcb2 : (c == [112, 97, 115, 115]) = false := by simpa using hc2
                        clear hc2
                        go_wp2_with (first
                          | (go_at_call 32; refine (hit _ (g.up upI)).mono ?_; rintro e w' ⟨rfl, x6, rfl⟩)
                          | (go_at_call 48; refine (hrs _).mono ?_; rintro e w' ⟨rfl, x7, rfl⟩)
                          | (go_at_call 26; refine (hps _).mono ?_; rintro e w' ⟨rfl, x8, rfl⟩)
                          | (go_at_call 49; refine (hky _).mono ?_; rintro e w' ⟨rfl, xk, rfl⟩)
                          | (go_at_call 24; refine (hrf _).mono ?_; rintro e w' ⟨rfl, x9, rfl⟩))
                        all_goals first | (exfalso; omega) | skip
                        refine bodyPost_ret (v := Value.tuple #[.agg #[.int .i64 0, .int .u8 0, .int .u8 0, .int .u8 0, .int .u32 0, .int .u32 0, .int .u16 0, .int .u16 0], .int .i64 410]) (by simp [results, Tryz.results22, go_sem]) rfl ⟨rfl, mkI⟩
                  · rw [hpb] at hps
                    by_cases hcp : c = [112, 97, 115, 115]
                    · have HV := Lib.hid (show verdictOf (rsN d) = c by unfold verdictOf; rw [hpb, hcp]; rfl)
                      clear hpb
                      subst hcp
                      by_cases h20 : rsN d < 20
                      · by_cases hk : key = [45]
                        · subst hk
                          cases hR : rightEv D 1 (rsN d) 0 0 0 0 0
                          · have hrf := fun w => (hri.out 1 0 0 0 0 0 w (by omega) (by omega)).cast (by rw [hR])
                            clear hR
                            go_wp2_with (first
                              | (go_at_call 32; refine (hit _ (g.up upI)).mono ?_; rintro e w' ⟨rfl, x6, rfl⟩)
                              | (go_at_call 48; refine (hrs _).mono ?_; rintro e w' ⟨rfl, x7, rfl⟩)
                              | (go_at_call 26; refine (hps _).mono ?_; rintro e w' ⟨rfl, x8, rfl⟩)
                              | (go_at_call 49; refine (hky _).mono ?_; rintro e w' ⟨rfl, xk, rfl⟩)
                              | (go_at_call 24; refine (hrf _).mono ?_; rintro e w' ⟨rfl, x9, rfl⟩))
                            all_goals first | (exfalso; omega) | skip
                            refine bodyPost_ret (v := Value.tuple #[.agg #[.int .i64 0, .int .u8 0, .int .u8 0, .int .u8 0, .int .u32 0, .int .u32 0, .int .u16 0, .int .u16 0], .int .i64 410]) (by simp [results, Tryz.results22, go_sem]) rfl ⟨rfl, mkI⟩
                          · exfalso
                            refine noEv_parts HN.out H1.out H2.out H3.out H4.out ⟨D, 1, rsN d, 0, 0, 0, 0, 0⟩ ⟨HD.out.1.1, HD.out.1.2, by show (0 : Int) ≤ 1; omega, by show (1 : Int) < 256; omega, rb0, by show rsN d < 256; omega, ⟨by show (0 : Int) ≤ 0; omega, by show (0 : Int) < 256; omega, by show (0 : Int) ≤ 0; omega, by show (0 : Int) < 4294967296; omega, by show (0 : Int) ≤ 0; omega, by show (0 : Int) < 4294967296; omega, by show (0 : Int) ≤ 0; omega, by show (0 : Int) < 65536; omega, by show (0 : Int) ≤ 0; omega, by show (0 : Int) < 65536; omega⟩⟩ hR HA.out HB.out HV.out (rsN_back d hre.out).1 ?_
                            unfold evKey
                            rw [if_pos h20]
                        · have hkb : (key == [45]) = false := by simpa using hk
                          clear hk
                          go_wp2_with (first
                            | (go_at_call 32; refine (hit _ (g.up upI)).mono ?_; rintro e w' ⟨rfl, x6, rfl⟩)
                            | (go_at_call 48; refine (hrs _).mono ?_; rintro e w' ⟨rfl, x7, rfl⟩)
                            | (go_at_call 26; refine (hps _).mono ?_; rintro e w' ⟨rfl, x8, rfl⟩)
                            | (go_at_call 49; refine (hky _).mono ?_; rintro e w' ⟨rfl, xk, rfl⟩)
                            | (go_at_call 24; refine (hrf _).mono ?_; rintro e w' ⟨rfl, x9, rfl⟩))
                          all_goals first | (exfalso; omega) | skip
                          refine bodyPost_ret (v := Value.tuple #[.agg #[.int .i64 0, .int .u8 0, .int .u8 0, .int .u8 0, .int .u32 0, .int .u32 0, .int .u16 0, .int .u16 0], .int .i64 410]) (by simp [results, Tryz.results22, go_sem]) rfl ⟨rfl, mkI⟩
                      · have h20' : 20 ≤ rsN d := by omega
                        clear h20
                        cases hB : kvB key
                        · rw [hB] at hky
                          clear hB
                          go_wp2_with (first
                            | (go_at_call 32; refine (hit _ (g.up upI)).mono ?_; rintro e w' ⟨rfl, x6, rfl⟩)
                            | (go_at_call 48; refine (hrs _).mono ?_; rintro e w' ⟨rfl, x7, rfl⟩)
                            | (go_at_call 26; refine (hps _).mono ?_; rintro e w' ⟨rfl, x8, rfl⟩)
                            | (go_at_call 49; refine (hky _).mono ?_; rintro e w' ⟨rfl, xk, rfl⟩)
                            | (go_at_call 24; refine (hrf _).mono ?_; rintro e w' ⟨rfl, x9, rfl⟩))
                          all_goals first | (exfalso; omega) | skip
                          refine bodyPost_ret (v := Value.tuple #[.agg #[.int .i64 0, .int .u8 0, .int .u8 0, .int .u8 0, .int .u32 0, .int .u32 0, .int .u16 0, .int .u16 0], .int .i64 410]) (by simp [results, Tryz.results22, go_sem]) rfl ⟨rfl, mkI⟩
                        · have hky2 : ∀ w, Gives Tryz.prog 49 #[.string ⟨key.toArray⟩] w (.tuple #[.agg #[.int .u8 (kPr key), .int .u32 (kS key), .int .u32 (kD key), .int .u16 (kSp key), .int .u16 (kDp key)], .int .i64 0]) := fun w => (hky w).cast (by rw [hB]; rfl)
                          have kb := HK.out
                          rw [hB] at kb
                          have kb' : KeyB (kPr key) (kS key) (kD key) (kSp key) (kDp key) := kb
                          have hkt : keyTextL (kPr key) (kS key) (kD key) (kSp key) (kDp key) = key := by unfold kvB kText at hB; simpa using hB
                          have HT := Lib.hid hkt
                          have HKB := Lib.hid kb'
                          clear hky hB kb kb' hkt HK
                          generalize kPr key = q1 at *
                          generalize kS key = q2 at *
                          generalize kD key = q3 at *
                          generalize kSp key = q4 at *
                          generalize kDp key = q5 at *
                          have hky := hky2
                          clear hky2
                          cases hR : rightEv D 1 (rsN d) q1 q2 q3 q4 q5
                          · have hrf := fun w => (hri.out 1 q1 q2 q3 q4 q5 w (by omega) (by omega)).cast (by rw [hR])
                            clear hR
                            go_wp2_with (first
                              | (go_at_call 32; refine (hit _ (g.up upI)).mono ?_; rintro e w' ⟨rfl, x6, rfl⟩)
                              | (go_at_call 48; refine (hrs _).mono ?_; rintro e w' ⟨rfl, x7, rfl⟩)
                              | (go_at_call 26; refine (hps _).mono ?_; rintro e w' ⟨rfl, x8, rfl⟩)
                              | (go_at_call 49; refine (hky _).mono ?_; rintro e w' ⟨rfl, xk, rfl⟩)
                              | (go_at_call 24; refine (hrf _).mono ?_; rintro e w' ⟨rfl, x9, rfl⟩))
                            all_goals first | (exfalso; omega) | skip
                            refine bodyPost_ret (v := Value.tuple #[.agg #[.int .i64 0, .int .u8 0, .int .u8 0, .int .u8 0, .int .u32 0, .int .u32 0, .int .u16 0, .int .u16 0], .int .i64 410]) (by simp [results, Tryz.results22, go_sem]) rfl ⟨rfl, mkI⟩
                          · exfalso
                            refine noEv_parts HN.out H1.out H2.out H3.out H4.out ⟨D, 1, rsN d, q1, q2, q3, q4, q5⟩ ⟨HD.out.1.1, HD.out.1.2, by show (0 : Int) ≤ 1; omega, by show (1 : Int) < 256; omega, rb0, by show rsN d < 256; omega, HKB.out⟩ hR HA.out HB.out HV.out (rsN_back d hre.out).1 ?_
                            unfold evKey
                            rw [if_neg (show ¬ rsN d < 20 by omega)]
                            exact HT.out
                    · have hcb : (c == [112, 97, 115, 115]) = false := by simpa using hcp
                      clear hpb hcp
                      go_wp2_with (first
                        | (go_at_call 32; refine (hit _ (g.up upI)).mono ?_; rintro e w' ⟨rfl, x6, rfl⟩)
                        | (go_at_call 48; refine (hrs _).mono ?_; rintro e w' ⟨rfl, x7, rfl⟩)
                        | (go_at_call 26; refine (hps _).mono ?_; rintro e w' ⟨rfl, x8, rfl⟩)
                        | (go_at_call 49; refine (hky _).mono ?_; rintro e w' ⟨rfl, xk, rfl⟩)
                        | (go_at_call 24; refine (hrf _).mono ?_; rintro e w' ⟨rfl, x9, rfl⟩))
                      all_goals first | (exfalso; omega) | skip
                      refine bodyPost_ret (v := Value.tuple #[.agg #[.int .i64 0, .int .u8 0, .int .u8 0, .int .u8 0, .int .u32 0, .int .u32 0, .int .u16 0, .int .u16 0], .int .i64 410]) (by simp [results, Tryz.results22, go_sem]) rfl ⟨rfl, mkI⟩
                · have e6 : rsE d = 6 := by unfold rsE; rw [if_neg hre']
                  rw [e6] at hrs
                  clear e6 hre'
                  go_wp2_with (first
                    | (go_at_call 32; refine (hit _ (g.up upI)).mono ?_; rintro e w' ⟨rfl, x6, rfl⟩)
                    | (go_at_call 48; refine (hrs _).mono ?_; rintro e w' ⟨rfl, x7, rfl⟩)
                    | (go_at_call 26; refine (hps _).mono ?_; rintro e w' ⟨rfl, x8, rfl⟩)
                    | (go_at_call 49; refine (hky _).mono ?_; rintro e w' ⟨rfl, xk, rfl⟩)
                    | (go_at_call 24; refine (hrf _).mono ?_; rintro e w' ⟨rfl, x9, rfl⟩))
                  all_goals first | (exfalso; omega) | skip
                  refine bodyPost_ret (v := Value.tuple #[.agg #[.int .i64 0, .int .u8 0, .int .u8 0, .int .u8 0, .int .u32 0, .int .u32 0, .int .u16 0, .int .u16 0], .int .i64 410]) (by simp [results, Tryz.results22, go_sem]) rfl ⟨rfl, mkI⟩
              · have houtb : (b == [111, 117, 116]) = false := by simpa using hout
                clear hout
                go_wp2_with (first
                  | (go_at_call 32; refine (hit _ (g.up upI)).mono ?_; rintro e w' ⟨rfl, x6, rfl⟩)
                  | (go_at_call 48; refine (hrs _).mono ?_; rintro e w' ⟨rfl, x7, rfl⟩)
                  | (go_at_call 26; refine (hps _).mono ?_; rintro e w' ⟨rfl, x8, rfl⟩)
                  | (go_at_call 49; refine (hky _).mono ?_; rintro e w' ⟨rfl, xk, rfl⟩)
                  | (go_at_call 24; refine (hrf _).mono ?_; rintro e w' ⟨rfl, x9, rfl⟩))
                all_goals first | (exfalso; omega) | skip
                refine bodyPost_ret (v := Value.tuple #[.agg #[.int .i64 0, .int .u8 0, .int .u8 0, .int .u8 0, .int .u32 0, .int .u32 0, .int .u16 0, .int .u16 0], .int .i64 410]) (by simp [results, Tryz.results22, go_sem]) rfl ⟨rfl, mkI⟩
          · have hiab : (dec D == a) = false := by simpa using hia
            clear hia
            go_wp2_with (first
              | (go_at_call 32; refine (hit _ (g.up upI)).mono ?_; rintro e w' ⟨rfl, x6, rfl⟩)
              | (go_at_call 48; refine (hrs _).mono ?_; rintro e w' ⟨rfl, x7, rfl⟩)
              | (go_at_call 26; refine (hps _).mono ?_; rintro e w' ⟨rfl, x8, rfl⟩)
              | (go_at_call 49; refine (hky _).mono ?_; rintro e w' ⟨rfl, xk, rfl⟩)
              | (go_at_call 24; refine (hrf _).mono ?_; rintro e w' ⟨rfl, x9, rfl⟩))
            all_goals first | (exfalso; omega) | skip
            refine bodyPost_ret (v := Value.tuple #[.agg #[.int .i64 0, .int .u8 0, .int .u8 0, .int .u8 0, .int .u32 0, .int .u32 0, .int .u16 0, .int .u16 0], .int .i64 410]) (by simp [results, Tryz.results22, go_sem]) rfl ⟨rfl, mkI⟩
end Go.Proofs.YtdebpdjkkblcfaaGreatDoor
