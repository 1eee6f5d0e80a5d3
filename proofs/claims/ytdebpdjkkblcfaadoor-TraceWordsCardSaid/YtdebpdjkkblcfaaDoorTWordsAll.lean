/- The walk of TraceWords. -/
import Derived.Test.YtdebpdjkkblcfaaDoorTrPlain
import Derived.Test.YtdebpdjkkblcfaaDoorMade
import Derived.Test.YtdebpdjkkblcfaaDoorAwk3
import Derived.Test.YtdebpdjkkblcfaaDoorEvAt
import Derived.Test.YtdebpdjkkblcfaaDoorRel
import Derived.Deep.DeepCutAuto
import Derived.Deep.RegionWith
namespace Go.Ab
open Go.RowKit Go.Proofs.YtdebpdjkkblcfaaDoor
theorem readKey_dash : readKeyV [45] = .tuple #[.agg #[.int .u8 0, .int .u32 0, .int .u32 0, .int .u16 0, .int .u16 0], .int .i64 30] := by
  rw [kv_eq, show kvB [45] = false from by decide +kernel]; rfl
theorem readKey_ev (pr s d sp dp : Int) (k : KeyB pr s d sp dp) : readKeyV (keyTextL pr s d sp dp) = .tuple #[.agg #[.int .u8 pr, .int .u32 s, .int .u32 d, .int .u16 sp, .int .u16 dp], .int .i64 0] := by
  obtain ⟨h1, h2, h3, h4, h5⟩ := kv_text pr s d sp dp k
  have hb : kvB (keyTextL pr s d sp dp) = true := by
    obtain ⟨q1, q2, q3, q4, q5⟩ := readKey_text pr s d sp dp k.r0 k.r1 k.s0 k.s1 k.d0 k.d1 k.sp0 k.sp1 k.dp0 k.dp1
    unfold kvB kText; rw [q1, q2, q3, q4, q5]; simp
  rw [kv_eq, h1, h2, h3, h4, h5, hb]; rfl
end Go.Ab
namespace Go.Proofs.YtdebpdjkkblcfaaDoor
open Go.RowKit Go.Ab
attribute [local go_sem high] eq_event eq_key
set_option maxHeartbeats 64000000 in
set_option synthInstance.maxHeartbeats 2000000 in
set_option synthInstance.maxSize 100000 in
set_option maxRecDepth 100000 in
theorem twords_any (now : Int) (x : Sm) (w : World) (g : GoodT w) (hx : SmB x) :
    Gives Tryd.prog 4 #[.int .i64 now, .agg #[.int .u8 x.a, .int .u8 x.sd, .int .u8 x.r, .int .u8 x.p, .int .u32 x.s, .int .u32 x.d, .int .u16 x.sp, .int .u16 x.dp]] w (.bool true) := by
  have hmd := fun w => modulo_any now 1099511627773 w (by omega) (by omega)
  have hN0 : 0 ≤ now % 1099511627773 := by omega
  have hN1 : now % 1099511627773 ≤ 1099511627772 := by omega
  generalize now % 1099511627773 = N at *
  have hmx := fun w => made_any N x w hx (by omega) (by omega)
  have ax := madeE_b N x hx (by omega) (by omega)
  have rx := madeE_r N x (by omega) (by omega)
  generalize madeE N x = A at *
  obtain ⟨xa, xsd, xr, xp, xs, xd, xsp, xdp⟩ := x
  simp only at hmx ⊢
  clear hx
  obtain ⟨⟨n0, n1⟩, ⟨sd1, r1, r30⟩, hkz⟩ := ev_right_parts rx
  have hparts := ev_parts A n0
  have htl := text_len A ax rx
  obtain ⟨n, sd, r, pr, s, d, sp, dp⟩ := A
  simp only at n0 n1 sd1 r1 r30 hkz hparts
  have sd0 : 0 ≤ sd := ax.sd0
  obtain ⟨k, rfl⟩ := Int.eq_ofNat_of_zero_le sd0
  have htA : ∀ w, GoodT w → Gives Tryd.prog 12 #[.agg #[.int .i64 n, .int .u8 k, .int .u8 r, .int .u8 pr, .int .u32 s, .int .u32 d, .int .u16 sp, .int .u16 dp]] w (.tuple #[.string ⟨(Ev.text ⟨n, k, r, pr, s, d, sp, dp⟩).toArray⟩, .int .i64 0]) := fun w g => (tr_text n k r pr s d sp dp w g (by omega) (by omega) (by omega) (by omega) ax.key).cast (by unfold evTextS evTextE; rw [if_pos (show rightEv n k r pr s d sp dp = true from rx), if_pos (show rightEv n k r pr s d sp dp = true from rx)]; rfl)
  have hsp := fun w g => splitN_five (Ev.text ⟨n, k, r, pr, s, d, sp, dp⟩) _ _ _ _ _ w g (by omega) hparts
  have hnm : ∀ w, GoodN w → Gives Tryd.prog 16 #[.int .u8 r] w (.tuple #[.string ⟨(nameOf r).toArray⟩, .int .i64 0]) := fun w g => (name_any r w g (by omega) (by omega)).cast (by unfold nameE; rw [if_pos (by omega)])
  have hit : ∀ w, Good w → Gives Tryd.prog 17 #[.int .i64 n] w (.string ⟨(dec n).toArray⟩) := fun w g => itoa_any n w g (by omega) (by omega)
  have hpv := fun w => pass_any r w (by omega) (by omega)
  have hkey : ∀ w, Good w → Gives Tryd.prog 19 #[.string ⟨(evKey r pr s d sp dp).toArray⟩] w (readKeyV (evKey r pr s d sp dp)) := fun w g => readKey_any _ w g (by
    have := keyTextL_len pr s d sp dp ax.key.r0 ax.key.r1 ax.key.sp0 ax.key.sp1 ax.key.dp0 ax.key.dp1
    unfold evKey
    split
    · simp
    · omega)
  have kk0 : (0 : Int) ≤ (k : Int) := by omega
  have kk1 : (k : Int) < 2 := by omega
  have hc3 : ∀ h, ([Value.string ⟨#[105, 110]⟩, .string ⟨#[111, 117, 116]⟩] : List Value)[k]'h = .string ⟨(wordOf k).toArray⟩ := fun h => by
    rcases (by omega : k = 0 ∨ k = 1) with rfl | rfl <;> rfl
  have Hk := Lib.hid ax.key
  have Hz := Lib.hid hkz
  clear rx ax hparts hkz htl
  generalize Ev.text ⟨n, k, r, pr, s, d, sp, dp⟩ = tx at *
  generalize wordOf (k : Int) = wd at *
  generalize dec n = dn at *
  generalize nameOf r = nm at *
  unfold Ev.val at hmx
  simp only at hmx
  unfold Gives
  go_enter Tryd.func4, Tryd.ntmps4
  go_upto_region 3 with (first
    | (go_at_call 9; refine (awake_any _ (g.up upI)).mono ?_; rintro e w' ⟨rfl, z, rfl⟩))
  go_cut [5] (fun v5 wx => ∃ p, v5 = .pointer (some ⟨p, 0, none⟩) ∧ UpI w wx ∧ EvAt wx p ⟨n, k, r, pr, s, d, sp, dp⟩)
  case first =>
    go_region_held3 (fun w' => UpI w w' ∧ (w'.cell? ⟨w.heap.size, 0, none⟩ = some (.int .u8 xa) ∧ w'.cell? ⟨w.heap.size, 1, none⟩ = some (.int .u8 xsd) ∧ w'.cell? ⟨w.heap.size, 2, none⟩ = some (.int .u8 xr) ∧ w'.cell? ⟨w.heap.size, 3, none⟩ = some (.int .u8 xp) ∧ w'.cell? ⟨w.heap.size, 4, none⟩ = some (.int .u32 xs) ∧ w'.cell? ⟨w.heap.size, 5, none⟩ = some (.int .u32 xd) ∧ w'.cell? ⟨w.heap.size, 6, none⟩ = some (.int .u16 xsp) ∧ w'.cell? ⟨w.heap.size, 7, none⟩ = some (.int .u16 xdp)))
      (exact ⟨inferInstance, ⟨by simp [go_sem], by simp [go_sem], by simp [go_sem], by simp [go_sem], by simp [go_sem], by simp [go_sem], by simp [go_sem], by simp [go_sem]⟩⟩)
      (first
        | (go_at_call 10; (with_reducible refine (hmd _).mono ?_); rintro e w' ⟨rfl, z, rfl⟩)
        | (go_at_call 11; (with_reducible refine (hmx _).mono ?_); rintro e w' ⟨rfl, z, rfl⟩))
    all_goals (go_wp2_with fail; go_meet; exact ⟨_, rfl, inferInstance, ⟨by simp [go_sem], by simp [go_sem], by simp [go_sem], by simp [go_sem], by simp [go_sem], by simp [go_sem], by simp [go_sem], by simp [go_sem]⟩⟩)
  case rest =>
    obtain ⟨p, rfl, hu, eA⟩ := hcut
    haveI := eA.lt
    have gx := g.up hu.up
    obtain ⟨a0, a1, a2, a3, a4, a5, a6, a7⟩ := eA
    simp only at a0 a1 a2 a3 a4 a5 a6 a7
    clear g hmd hmx
    go_upto_region 7 with (first
      | (go_at_call 12; refine (htA _ (gx.up upI)).mono ?_; rintro e w' ⟨rfl, z1, rfl⟩)
      | (go_at_call 15; refine (hsp _ (gx.good.up upI)).mono ?_; rintro e w' ⟨rfl, rfl⟩)
      | (go_at_call 16; refine (hnm _ (gx.goodN.up upI)).mono ?_; rintro e w' ⟨rfl, z2, rfl⟩))
    have f0 : z2.w.cell? ⟨z1.w.heap.size, 0, none⟩ = some (.string ⟨dn.toArray⟩) := by simp [go_sem]
    have f1 : z2.w.cell? ⟨z1.w.heap.size, 1, none⟩ = some (.string ⟨wd.toArray⟩) := by simp [go_sem]
    have f2 : z2.w.cell? ⟨z1.w.heap.size, 2, none⟩ = some (.string ⟨(verdictOf r).toArray⟩) := by simp [go_sem]
    have f3 : z2.w.cell? ⟨z1.w.heap.size, 3, none⟩ = some (.string ⟨nm.toArray⟩) := by simp [go_sem]
    have f4 : z2.w.cell? ⟨z1.w.heap.size, 4, none⟩ = some (.string ⟨(evKey r pr s d sp dp).toArray⟩) := by simp [go_sem]
    have e0 := (upI : Up _ z2.w).cell_some' a0; have e1 := (upI : Up _ z2.w).cell_some' a1; have e2 := (upI : Up _ z2.w).cell_some' a2; have e3 := (upI : Up _ z2.w).cell_some' a3; have e4 := (upI : Up _ z2.w).cell_some' a4; have e5 := (upI : Up _ z2.w).cell_some' a5; have e6 := (upI : Up _ z2.w).cell_some' a6; have e7 := (upI : Up _ z2.w).cell_some' a7
    have g2 := gx.up (upI : Up _ z2.w)
    have u2 : UpI w z2.w := inferInstance
    clear a0 a1 a2 a3 a4 a5 a6 a7 gx htA hsp hnm hu
    generalize z2.w = W at *
    generalize z1.w.heap.size = B at *
    haveI : LtSize B W := ⟨cell_lt' f0⟩
    haveI : LtSize p W := ⟨cell_lt' e0⟩
    go_cut [68] (fun v68 wx => v68 = .bool false ∧ ∃ z : Ext W, wx = z.w)
    case first =>
      refine wp_region_rel2 (relAt [isV (.int .i64 0),
        isV (.int .i64 0),
        isV (.int .i64 0),
        isV (.bool false),
        isV (.bool false),
        isV (.slice (some ⟨B, 0, none⟩) 5 5),
        isV (.int .i64 5),
        isV (.bool false),
        isV (.bool false),
        isV (.bool false),
        isV (.slice (some ⟨B, 0, none⟩) 5 5),
        isV (.pointer (some ⟨B, 0, none⟩)),
        isV (.string ⟨dn.toArray⟩),
        isV (.pointer (some ⟨p, 0, none⟩)),
        isV (.int .i64 n),
        isV (.string ⟨dn.toArray⟩),
        isV (.bool false),
        isV (.bool false),
        isV (.bool false),
        isV (.slice (some ⟨B, 0, none⟩) 5 5),
        isV (.pointer (some ⟨B, 1, none⟩)),
        isV (.string ⟨wd.toArray⟩),
        (fun v W' => ∃ b : Nat, v = .slice (some ⟨b, 0, none⟩) 2 2 ∧ W'.cell? ⟨b, 0, none⟩ = some (.string ⟨#[105, 110]⟩) ∧ W'.cell? ⟨b, 1, none⟩ = some (.string ⟨#[111, 117, 116]⟩)),
        isV (.pointer (some ⟨p, 1, none⟩)),
        isV (.int .u8 (k : Int)),
        (fun v W' => ∃ b : Nat, v = .pointer (some ⟨b, k, none⟩) ∧ W'.cell? ⟨b, k, none⟩ = some (.string ⟨wd.toArray⟩)),
        isV (.string ⟨wd.toArray⟩),
        isV (.bool false),
        isV (.bool false),
        isV (.bool false),
        isV (.slice (some ⟨B, 0, none⟩) 5 5),
        isV (.pointer (some ⟨B, 3, none⟩)),
        isV (.string ⟨nm.toArray⟩),
        isV (.string ⟨nm.toArray⟩),
        isV (.bool false),
        isV (.bool false)]) [33, 34, 35, 36, 37, 38, 39, 40, 41, 42, 43, 44, 45, 46, 47, 48, 49, 50, 51, 52, 53, 54, 55, 56, 57, 58, 59, 60, 61, 62, 63, 64, 65, 66, 67, 68] 134 (by kernel_rfl) (by kernel_rfl) (by kernel_rfl) rfl (relAt_mono ?hmono) ⟨?o0, ?o1, ?o2, ?o3, ?o4, ?o5, ?o6, ?o7, ?o8, ?o9, ?o10, ?o11, ?o12, ?o13, ?o14, ?o15, ?o16, ?o17, ?o18, ?o19, ?o20, ?o21, ?o22, ?o23, ?o24, ?o25, ?o26, ?o27, ?o28, ?o29, ?o30, ?o31, ?o32, ?o33, ?o34, ?o35, trivial⟩ ?hend
      case hmono =>
        intro r hr v W1 W2 h1 hu
        simp only [List.mem_cons, List.not_mem_nil, or_false] at hr
        rcases hr with rfl | rfl | rfl | rfl | rfl | rfl | rfl | rfl | rfl | rfl | rfl | rfl | rfl | rfl | rfl | rfl | rfl | rfl | rfl | rfl | rfl | rfl | rfl | rfl | rfl | rfl | rfl | rfl | rfl | rfl | rfl | rfl | rfl | rfl | rfl | rfl
        all_goals first
          | exact h1
          | (obtain ⟨b, h1, h2, h3⟩ := h1; exact ⟨b, h1, hu.cell_some' h2, hu.cell_some' h3⟩)
          | (obtain ⟨b, h1, h2⟩ := h1; exact ⟨b, h1, hu.cell_some' h2⟩)
      case o0 =>
        intro vs W' F Y E hu hd
        have s0 := E.eout 7 (.int .i64 0) rfl rfl
        exact rel_val (v := .int .i64 0) rfl (by simp [go_sem, s0]) (Up.refl _) rfl
      case o1 =>
        intro vs W' F Y E hu hd
        have s0 := E.eout 10 (.int .i64 0) rfl rfl
        exact rel_val (v := .int .i64 0) rfl (by simp [go_sem, s0]) (Up.refl _) rfl
      case o2 =>
        intro vs W' F Y E hu hd
        have d0 : vs 0 = .int .i64 0 := hd ⟨0, .data⟩ (by simp) rfl
        have t0 := E.ein 0 33 _ rfl (by decide) d0
        have d1 : vs 1 = .int .i64 0 := hd ⟨1, .data⟩ (by simp) rfl
        have t1 := E.ein 1 34 _ rfl (by decide) d1
        exact rel_val (v := .int .i64 0) rfl (by simp [go_sem, t0, t1]; decide) (Up.refl _) rfl
      case o3 =>
        intro vs W' F Y E hu hd
        have d2 : vs 2 = .int .i64 0 := hd ⟨2, .data⟩ (by simp) rfl
        have t2 := E.ein 2 35 _ rfl (by decide) d2
        exact rel_val (v := .bool false) rfl (by simp [go_sem, t2]) (Up.refl _) rfl
      case o4 =>
        intro vs W' F Y E hu hd
        have d3 : vs 3 = .bool false := hd ⟨3, .data⟩ (by simp) rfl
        have t3 := E.ein 3 36 _ rfl (by decide) d3
        exact rel_val (v := .bool false) rfl (by simp [go_sem, t3]) (Up.refl _) rfl
      case o5 =>
        intro vs W' F Y E hu hd
        have dg : vs 4 = .bool false := hd ⟨4, .guard⟩ (by simp) rfl
        have s0 := E.eout 8 (.slice (some ⟨B, 0, none⟩) 5 5) rfl rfl
        exact rel_val (v := .slice (some ⟨B, 0, none⟩) 5 5) (want_of 4 false rfl (E.yld 4 37 false rfl (by decide) dg)) (by simp [go_sem, s0]) (Up.refl _) rfl
      case o6 =>
        intro vs W' F Y E hu hd
        have dg : vs 4 = .bool false := hd ⟨4, .guard⟩ (by simp) rfl
        have d5 : vs 5 = .slice (some ⟨B, 0, none⟩) 5 5 := hd ⟨5, .data⟩ (by simp) rfl
        have t5 := E.ein 5 38 _ rfl (by decide) d5
        exact rel_val (v := .int .i64 5) (want_of 4 false rfl (E.yld 4 37 false rfl (by decide) dg)) (by simp [go_sem, t5]) (Up.refl _) rfl
      case o7 =>
        intro vs W' F Y E hu hd
        have dg : vs 4 = .bool false := hd ⟨4, .guard⟩ (by simp) rfl
        have d6 : vs 6 = .int .i64 5 := hd ⟨6, .data⟩ (by simp) rfl
        have t6 := E.ein 6 39 _ rfl (by decide) d6
        exact rel_val (v := .bool false) (want_of 4 false rfl (E.yld 4 37 false rfl (by decide) dg)) (by simp [go_sem, t6]) (Up.refl _) rfl
      case o8 =>
        intro vs W' F Y E hu hd
        have d4 : vs 4 = .bool false := hd ⟨4, .data⟩ (by simp) rfl
        have t4 := E.ein 4 37 _ rfl (by decide) d4
        have d7 : vs 7 = .bool false := hd ⟨7, .data⟩ (by simp) rfl
        have t7 := E.ein 7 40 _ rfl (by decide) d7
        exact rel_val (v := .bool false) rfl (by simp [go_sem, t4, t7]) (Up.refl _) rfl
      case o9 =>
        intro vs W' F Y E hu hd
        have d8 : vs 8 = .bool false := hd ⟨8, .data⟩ (by simp) rfl
        have t8 := E.ein 8 41 _ rfl (by decide) d8
        exact rel_val (v := .bool false) rfl (by simp [go_sem, t8]) (Up.refl _) rfl
      case o10 =>
        intro vs W' F Y E hu hd
        have dg : vs 9 = .bool false := hd ⟨9, .guard⟩ (by simp) rfl
        have s0 := E.eout 8 (.slice (some ⟨B, 0, none⟩) 5 5) rfl rfl
        exact rel_val (v := .slice (some ⟨B, 0, none⟩) 5 5) (want_of 9 false rfl (E.yld 9 42 false rfl (by decide) dg)) (by simp [go_sem, s0]) (Up.refl _) rfl
      case o11 =>
        intro vs W' F Y E hu hd
        have dg : vs 9 = .bool false := hd ⟨9, .guard⟩ (by simp) rfl
        have d10 : vs 10 = .slice (some ⟨B, 0, none⟩) 5 5 := hd ⟨10, .data⟩ (by simp) rfl
        have t10 := E.ein 10 43 _ rfl (by decide) d10
        exact rel_val (v := .pointer (some ⟨B, 0, none⟩)) (want_of 9 false rfl (E.yld 9 42 false rfl (by decide) dg)) (by simp [go_sem, t10]) (Up.refl _) rfl
      case o12 =>
        intro vs W' F Y E hu hd
        have dg : vs 9 = .bool false := hd ⟨9, .guard⟩ (by simp) rfl
        have d11 : vs 11 = .pointer (some ⟨B, 0, none⟩) := hd ⟨11, .data⟩ (by simp) rfl
        have t11 := E.ein 11 44 _ rfl (by decide) d11
        exact rel_val (v := .string ⟨dn.toArray⟩) (want_of 9 false rfl (E.yld 9 42 false rfl (by decide) dg)) (by simp [go_sem, t11, hu.cell_some' f0]) (Up.refl _) rfl
      case o13 =>
        intro vs W' F Y E hu hd
        have dg : vs 9 = .bool false := hd ⟨9, .guard⟩ (by simp) rfl
        have s0 := E.eout 5 (.pointer (some ⟨p, 0, none⟩)) rfl rfl
        exact rel_val (v := .pointer (some ⟨p, 0, none⟩)) (want_of 9 false rfl (E.yld 9 42 false rfl (by decide) dg)) (by simp [go_sem, s0]) (Up.refl _) rfl
      case o14 =>
        intro vs W' F Y E hu hd
        have dg : vs 9 = .bool false := hd ⟨9, .guard⟩ (by simp) rfl
        have d13 : vs 13 = .pointer (some ⟨p, 0, none⟩) := hd ⟨13, .data⟩ (by simp) rfl
        have t13 := E.ein 13 46 _ rfl (by decide) d13
        exact rel_val (v := .int .i64 n) (want_of 9 false rfl (E.yld 9 42 false rfl (by decide) dg)) (by simp [go_sem, t13, hu.cell_some' e0]) (Up.refl _) rfl
      case o15 =>
        intro vs W' F Y E hu hd
        have dg : vs 9 = .bool false := hd ⟨9, .guard⟩ (by simp) rfl
        have d14 : vs 14 = .int .i64 n := hd ⟨14, .data⟩ (by simp) rfl
        have t14 := E.ein 14 47 _ rfl (by decide) d14
        exact rel_call (want_of 9 false rfl (E.yld 9 42 false rfl (by decide) dg)) (by simp [go_sem, t14]) (hit W' (g2.good.up hu)) (fun _ _ => rfl)
      case o16 =>
        intro vs W' F Y E hu hd
        have dg : vs 9 = .bool false := hd ⟨9, .guard⟩ (by simp) rfl
        have d12 : vs 12 = .string ⟨dn.toArray⟩ := hd ⟨12, .data⟩ (by simp) rfl
        have t12 := E.ein 12 45 _ rfl (by decide) d12
        have d15 : vs 15 = .string ⟨dn.toArray⟩ := hd ⟨15, .data⟩ (by simp) rfl
        have t15 := E.ein 15 48 _ rfl (by decide) d15
        exact rel_val (v := .bool false) (want_of 9 false rfl (E.yld 9 42 false rfl (by decide) dg)) (by simp [go_sem, t12, t15]) (Up.refl _) rfl
      case o17 =>
        intro vs W' F Y E hu hd
        have d9 : vs 9 = .bool false := hd ⟨9, .data⟩ (by simp) rfl
        have t9 := E.ein 9 42 _ rfl (by decide) d9
        have d16 : vs 16 = .bool false := hd ⟨16, .data⟩ (by simp) rfl
        have t16 := E.ein 16 49 _ rfl (by decide) d16
        exact rel_val (v := .bool false) rfl (by simp [go_sem, t9, t16]) (Up.refl _) rfl
      case o18 =>
        intro vs W' F Y E hu hd
        have d17 : vs 17 = .bool false := hd ⟨17, .data⟩ (by simp) rfl
        have t17 := E.ein 17 50 _ rfl (by decide) d17
        exact rel_val (v := .bool false) rfl (by simp [go_sem, t17]) (Up.refl _) rfl
      case o19 =>
        intro vs W' F Y E hu hd
        have dg : vs 18 = .bool false := hd ⟨18, .guard⟩ (by simp) rfl
        have s0 := E.eout 8 (.slice (some ⟨B, 0, none⟩) 5 5) rfl rfl
        exact rel_val (v := .slice (some ⟨B, 0, none⟩) 5 5) (want_of 18 false rfl (E.yld 18 51 false rfl (by decide) dg)) (by simp [go_sem, s0]) (Up.refl _) rfl
      case o20 =>
        intro vs W' F Y E hu hd
        have dg : vs 18 = .bool false := hd ⟨18, .guard⟩ (by simp) rfl
        have d19 : vs 19 = .slice (some ⟨B, 0, none⟩) 5 5 := hd ⟨19, .data⟩ (by simp) rfl
        have t19 := E.ein 19 52 _ rfl (by decide) d19
        exact rel_val (v := .pointer (some ⟨B, 1, none⟩)) (want_of 18 false rfl (E.yld 18 51 false rfl (by decide) dg)) (by simp [go_sem, t19]) (Up.refl _) rfl
      case o21 =>
        intro vs W' F Y E hu hd
        have dg : vs 18 = .bool false := hd ⟨18, .guard⟩ (by simp) rfl
        have d20 : vs 20 = .pointer (some ⟨B, 1, none⟩) := hd ⟨20, .data⟩ (by simp) rfl
        have t20 := E.ein 20 53 _ rfl (by decide) d20
        exact rel_val (v := .string ⟨wd.toArray⟩) (want_of 18 false rfl (E.yld 18 51 false rfl (by decide) dg)) (by simp [go_sem, t20, hu.cell_some' f1]) (Up.refl _) rfl
      case o22 =>
        intro vs W' F Y E hu hd
        have dg : vs 18 = .bool false := hd ⟨18, .guard⟩ (by simp) rfl
        exact rel_val (v := .slice (some ⟨W'.heap.size, 0, none⟩) 2 2) (W' := W'.alloc (.cells #[.string ⟨#[105, 110]⟩, .string ⟨#[111, 117, 116]⟩] 9)) (want_of 18 false rfl (E.yld 18 51 false rfl (by decide) dg)) (by simp [go_sem]) ((Up.refl _).alloc _) ⟨_, rfl, by simp [go_sem], by simp [go_sem]⟩
      case o23 =>
        intro vs W' F Y E hu hd
        have dg : vs 18 = .bool false := hd ⟨18, .guard⟩ (by simp) rfl
        have s0 := E.eout 5 (.pointer (some ⟨p, 0, none⟩)) rfl rfl
        exact rel_val (v := .pointer (some ⟨p, 1, none⟩)) (want_of 18 false rfl (E.yld 18 51 false rfl (by decide) dg)) (by simp [go_sem, s0]) (Up.refl _) rfl
      case o24 =>
        intro vs W' F Y E hu hd
        have dg : vs 18 = .bool false := hd ⟨18, .guard⟩ (by simp) rfl
        have d23 : vs 23 = .pointer (some ⟨p, 1, none⟩) := hd ⟨23, .data⟩ (by simp) rfl
        have t23 := E.ein 23 56 _ rfl (by decide) d23
        exact rel_val (v := .int .u8 (k : Int)) (want_of 18 false rfl (E.yld 18 51 false rfl (by decide) dg)) (by simp [go_sem, t23, hu.cell_some' e1]) (Up.refl _) rfl
      case o25 =>
        intro vs W' F Y E hu hd
        have dg : vs 18 = .bool false := hd ⟨18, .guard⟩ (by simp) rfl
        obtain ⟨b, d22, l0, l1⟩ := hd ⟨22, .data⟩ (by simp) rfl
        have t22 := E.ein 22 55 _ rfl (by decide) d22
        have d24 : vs 24 = .int .u8 (k : Int) := hd ⟨24, .data⟩ (by simp) rfl
        have t24 := E.ein 24 57 _ rfl (by decide) d24
        exact rel_val (v := .pointer (some ⟨b, k, none⟩)) (want_of 18 false rfl (E.yld 18 51 false rfl (by decide) dg)) (by simp [go_sem, t22, t24, kk0, kk1]) (Up.refl _) ⟨b, rfl, by
          rcases (by omega : k = 0 ∨ k = 1) with rfl | rfl
          · rw [l0]; exact congrArg some (hc3 (by simp))
          · rw [l1]; exact congrArg some (hc3 (by simp))⟩
      case o26 =>
        intro vs W' F Y E hu hd
        have dg : vs 18 = .bool false := hd ⟨18, .guard⟩ (by simp) rfl
        obtain ⟨b, d25, l0⟩ := hd ⟨25, .data⟩ (by simp) rfl
        have t25 := E.ein 25 58 _ rfl (by decide) d25
        exact rel_val (v := .string ⟨wd.toArray⟩) (want_of 18 false rfl (E.yld 18 51 false rfl (by decide) dg)) (by simp [go_sem, t25, l0]) (Up.refl _) rfl
      case o27 =>
        intro vs W' F Y E hu hd
        have dg : vs 18 = .bool false := hd ⟨18, .guard⟩ (by simp) rfl
        have d21 : vs 21 = .string ⟨wd.toArray⟩ := hd ⟨21, .data⟩ (by simp) rfl
        have t21 := E.ein 21 54 _ rfl (by decide) d21
        have d26 : vs 26 = .string ⟨wd.toArray⟩ := hd ⟨26, .data⟩ (by simp) rfl
        have t26 := E.ein 26 59 _ rfl (by decide) d26
        exact rel_val (v := .bool false) (want_of 18 false rfl (E.yld 18 51 false rfl (by decide) dg)) (by simp [go_sem, t21, t26]) (Up.refl _) rfl
      case o28 =>
        intro vs W' F Y E hu hd
        have d18 : vs 18 = .bool false := hd ⟨18, .data⟩ (by simp) rfl
        have t18 := E.ein 18 51 _ rfl (by decide) d18
        have d27 : vs 27 = .bool false := hd ⟨27, .data⟩ (by simp) rfl
        have t27 := E.ein 27 60 _ rfl (by decide) d27
        exact rel_val (v := .bool false) rfl (by simp [go_sem, t18, t27]) (Up.refl _) rfl
      case o29 =>
        intro vs W' F Y E hu hd
        have d28 : vs 28 = .bool false := hd ⟨28, .data⟩ (by simp) rfl
        have t28 := E.ein 28 61 _ rfl (by decide) d28
        exact rel_val (v := .bool false) rfl (by simp [go_sem, t28]) (Up.refl _) rfl
      case o30 =>
        intro vs W' F Y E hu hd
        have dg : vs 29 = .bool false := hd ⟨29, .guard⟩ (by simp) rfl
        have s0 := E.eout 8 (.slice (some ⟨B, 0, none⟩) 5 5) rfl rfl
        exact rel_val (v := .slice (some ⟨B, 0, none⟩) 5 5) (want_of 29 false rfl (E.yld 29 62 false rfl (by decide) dg)) (by simp [go_sem, s0]) (Up.refl _) rfl
      case o31 =>
        intro vs W' F Y E hu hd
        have dg : vs 29 = .bool false := hd ⟨29, .guard⟩ (by simp) rfl
        have d30 : vs 30 = .slice (some ⟨B, 0, none⟩) 5 5 := hd ⟨30, .data⟩ (by simp) rfl
        have t30 := E.ein 30 63 _ rfl (by decide) d30
        exact rel_val (v := .pointer (some ⟨B, 3, none⟩)) (want_of 29 false rfl (E.yld 29 62 false rfl (by decide) dg)) (by simp [go_sem, t30]) (Up.refl _) rfl
      case o32 =>
        intro vs W' F Y E hu hd
        have dg : vs 29 = .bool false := hd ⟨29, .guard⟩ (by simp) rfl
        have d31 : vs 31 = .pointer (some ⟨B, 3, none⟩) := hd ⟨31, .data⟩ (by simp) rfl
        have t31 := E.ein 31 64 _ rfl (by decide) d31
        exact rel_val (v := .string ⟨nm.toArray⟩) (want_of 29 false rfl (E.yld 29 62 false rfl (by decide) dg)) (by simp [go_sem, t31, hu.cell_some' f3]) (Up.refl _) rfl
      case o33 =>
        intro vs W' F Y E hu hd
        have dg : vs 29 = .bool false := hd ⟨29, .guard⟩ (by simp) rfl
        have s0 := E.eout 9 (.string ⟨nm.toArray⟩) rfl rfl
        exact rel_val (v := .string ⟨nm.toArray⟩) (want_of 29 false rfl (E.yld 29 62 false rfl (by decide) dg)) (by simp [go_sem, s0]) (Up.refl _) rfl
      case o34 =>
        intro vs W' F Y E hu hd
        have dg : vs 29 = .bool false := hd ⟨29, .guard⟩ (by simp) rfl
        have d32 : vs 32 = .string ⟨nm.toArray⟩ := hd ⟨32, .data⟩ (by simp) rfl
        have t32 := E.ein 32 65 _ rfl (by decide) d32
        have d33 : vs 33 = .string ⟨nm.toArray⟩ := hd ⟨33, .data⟩ (by simp) rfl
        have t33 := E.ein 33 66 _ rfl (by decide) d33
        exact rel_val (v := .bool false) (want_of 29 false rfl (E.yld 29 62 false rfl (by decide) dg)) (by simp [go_sem, t32, t33]) (Up.refl _) rfl
      case o35 =>
        intro vs W' F Y E hu hd
        have d29 : vs 29 = .bool false := hd ⟨29, .data⟩ (by simp) rfl
        have t29 := E.ein 29 62 _ rfl (by decide) d29
        have d34 : vs 34 = .bool false := hd ⟨34, .data⟩ (by simp) rfl
        have t34 := E.ein 34 67 _ rfl (by decide) d34
        exact rel_val (v := .bool false) rfl (by simp [go_sem, t29, t34]) (Up.refl _) rfl
      case hend =>
        intro vs W' hu hall
        have d35 : vs 35 = .bool false := hall 35 (by simp)
        obtain ⟨x9, rfl⟩ := hu.mk
        simp only [fillL, Act.put, List.setIfInBounds_toArray, List.set_cons_zero, List.set_cons_succ, d35]
        go_wp2_with fail
        go_meet
        exact ⟨rfl, mkI⟩
    case rest =>
      obtain ⟨rfl, z3, rfl⟩ := hcut
      clear hit hc3 f0 f1 f3
      by_cases h20 : r < 20
      · have hk : evKey r pr s d sp dp = [45] := by unfold evKey; rw [if_pos h20]
        rw [hk] at f4 hkey
        rw [readKey_dash] at hkey
        have hp : passB r = false := by simp [passB]; omega
        have hv : verdictOf r = [100, 114, 111, 112] := by unfold verdictOf; rw [hp]; rfl
        rw [hv] at f2
        rw [hp] at hpv
        have q0 : (r == 20) = false := by simp; omega
        have q1 : (r == 21) = false := by simp; omega
        have q2 : (r == 22) = false := by simp; omega
        clear hp hv hk Hk Hz
        go_wp2_with (first
          | (go_at_call 18; refine (hpv _).mono ?_; rintro e w' ⟨rfl, z5, rfl⟩)
          | (go_at_call 19; refine (hkey _ (g2.good.up upI)).mono ?_; rintro e w' ⟨rfl, z6, rfl⟩))
        go_ret
        exact ⟨rfl, (upI : Up w _).mk⟩
      · have hk : evKey r pr s d sp dp = keyTextL pr s d sp dp := by unfold evKey; rw [if_neg h20]
        rw [hk] at f4 hkey
        rw [readKey_ev pr s d sp dp Hk.out] at hkey
        have h20' : 20 ≤ r := by omega
        clear hk Hk Hz h20
        generalize keyTextL pr s d sp dp = kt at *
        have kq : (pr == pr && (s == s && (d == d && (sp == sp && dp == dp)))) = true := by simp
        rcases (by omega : r = 20 ∨ r = 21 ∨ r = 22 ∨ 22 < r) with rfl | rfl | rfl | h22
        · rw [show verdictOf 20 = [112, 97, 115, 115] from by decide] at f2
          simp only [show passB 20 = true from by decide] at hpv
          go_wp2_with (first
            | (go_at_call 18; refine (hpv _).mono ?_; rintro e w' ⟨rfl, z5, rfl⟩)
            | (go_at_call 19; refine (hkey _ (g2.good.up upI)).mono ?_; rintro e w' ⟨rfl, z6, rfl⟩))
          go_ret
          exact ⟨rfl, (upI : Up w _).mk⟩
        · rw [show verdictOf 21 = [112, 97, 115, 115] from by decide] at f2
          simp only [show passB 21 = true from by decide] at hpv
          go_wp2_with (first
            | (go_at_call 18; refine (hpv _).mono ?_; rintro e w' ⟨rfl, z5, rfl⟩)
            | (go_at_call 19; refine (hkey _ (g2.good.up upI)).mono ?_; rintro e w' ⟨rfl, z6, rfl⟩))
          go_ret
          exact ⟨rfl, (upI : Up w _).mk⟩
        · rw [show verdictOf 22 = [112, 97, 115, 115] from by decide] at f2
          simp only [show passB 22 = true from by decide] at hpv
          go_wp2_with (first
            | (go_at_call 18; refine (hpv _).mono ?_; rintro e w' ⟨rfl, z5, rfl⟩)
            | (go_at_call 19; refine (hkey _ (g2.good.up upI)).mono ?_; rintro e w' ⟨rfl, z6, rfl⟩))
          go_ret
          exact ⟨rfl, (upI : Up w _).mk⟩
        · have hp : passB r = false := by simp [passB]; omega
          have hv : verdictOf r = [100, 114, 111, 112] := by unfold verdictOf; rw [hp]; rfl
          rw [hv] at f2
          rw [hp] at hpv
          have q0 : (r == 20) = false := by simp; omega
          have q1 : (r == 21) = false := by simp; omega
          have q2 : (r == 22) = false := by simp; omega
          clear hp hv
          go_wp2_with (first
            | (go_at_call 18; refine (hpv _).mono ?_; rintro e w' ⟨rfl, z5, rfl⟩)
            | (go_at_call 19; refine (hkey _ (g2.good.up upI)).mono ?_; rintro e w' ⟨rfl, z6, rfl⟩))
          go_ret
          exact ⟨rfl, (upI : Up w _).mk⟩
end Go.Proofs.YtdebpdjkkblcfaaDoor
