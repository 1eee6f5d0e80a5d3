/- Package dump: a line read. -/
import Derived.Test.YtlbbepgfjigjpaaGreatDoorDC
import Derived.Test.YtlbbepgfjigjpaaGreatDoorTr1
import Derived.Deep.DeepCutAuto
namespace Go.Ab
open Go.RowKit Go.Proofs.YtlbbepgfjigjpaaGreatDoor
theorem wp_letter {P : Program} {c : Code} {Q : Exit → Act → World → Prop} {a : Act} {W0 : World} (S : World → Prop) (hS : S W0) (h : ∀ W, S W → c.wp P Q a W) : c.wp P Q a W0 := h W0 hS
/-- The cells of a line at the head of a block. -/
structure LnAt (w : World) (p : Nat) (l : Ln) : Prop where
  c0 : w.cell? ⟨p, 0, none⟩ = some (.int .u8 l.pr)
  c1 : w.cell? ⟨p, 1, none⟩ = some (.int .u32 l.s)
  c2 : w.cell? ⟨p, 2, none⟩ = some (.int .u32 l.d)
  c3 : w.cell? ⟨p, 3, none⟩ = some (.int .u16 l.sp)
  c4 : w.cell? ⟨p, 4, none⟩ = some (.int .u16 l.dp)
  c5 : w.cell? ⟨p, 5, none⟩ = some (.int .u8 l.sd)
  c6 : w.cell? ⟨p, 6, none⟩ = some (.int .u8 l.cl)
  c7 : w.cell? ⟨p, 7, none⟩ = some (.bool l.rp)
  c8 : w.cell? ⟨p, 8, none⟩ = some (.bool l.ss)
  c9 : w.cell? ⟨p, 9, none⟩ = some (.int .i64 l.dl)
  c10 : w.cell? ⟨p, 10, none⟩ = some (.int .i64 l.sn)
theorem LnAt.up {w W : World} {p : Nat} {l : Ln} (h : LnAt w p l) (u : Up w W) : LnAt W p l :=
  ⟨u.cell_some h.c0, u.cell_some h.c1, u.cell_some h.c2, u.cell_some h.c3, u.cell_some h.c4, u.cell_some h.c5, u.cell_some h.c6, u.cell_some h.c7, u.cell_some h.c8, u.cell_some h.c9, u.cell_some h.c10⟩
theorem LnAt.lt {w : World} {p : Nat} {l : Ln} (h : LnAt w p l) : LtSize p w := ⟨cell_lt h.c0⟩
def clsF (w : List UInt8) (k : Nat) : Int := (List.range k).foldl (fun (c : Int) (i : Nat) => if clsOf (i : Int) = w then (i : Int) else c) 0
theorem clsF_succ (w : List UInt8) (k : Nat) : clsF w (k + 1) = if clsOf (k : Int) = w then (k : Int) else clsF w k := by
  unfold clsF
  rw [List.range_succ, List.foldl_append]
  rfl
theorem take_snoc3 {α : Type} (a : List α) (k : Nat) (x : α) (h : a[k]? = some x) : a.take (k + 1) = a.take k ++ [x] := by
  obtain ⟨hk, rfl⟩ := List.getElem?_eq_some_iff.1 h
  exact List.take_succ_eq_append_getElem hk
def dreadV (l : List UInt8) : Value := match readLn l with | some x => .tuple #[x.val, .int .i64 0] | none => .tuple #[Ln.zero.val, .int .i64 382]
theorem splitC_count (c : UInt8) : ∀ l : List UInt8, (splitC c l).length ≤ l.length + 1
  | [] => by simp [splitC]
  | b :: r => by
    have ih := splitC_count c r
    obtain ⟨a, t, e⟩ := splitC_ex c r
    rw [e] at ih
    rw [splitC, e]
    split <;> simp at ih ⊢ <;> omega
theorem wrap_len (m k : Nat) (h : m ≤ k) (hk : k ≤ 1000000000) : wrap64 (m : Int) = (m : Int) := IntWalk.wrap64_in _ ⟨by omega, by omega⟩
theorem lt_of_size (w : World) (b : Nat) [h : LtSize b w] : b < w.heap.size := h.lt
theorem Up.frozen_lt {w W : World} (u : Up w W) {b i : Nat} (h : b < w.heap.size) : W.frozen? ⟨b, i, none⟩ = w.frozen? ⟨b, i, none⟩ := by
  simp only [World.frozen?, u.block b h]
theorem nth_some (ws : List (List UInt8)) (k : Nat) (h : k < ws.length) : ws[k]? = some (ws.getD k []) := by
  rw [List.getD_eq_getElem?_getD, List.getElem?_eq_getElem h]; rfl
end Go.Ab
namespace Go.Proofs.YtlbbepgfjigjpaaGreatDoor
open Go.RowKit Go.Ab
theorem datoi_any (l : List UInt8) (w : World) (g : Good w) (hs : l.length ≤ 281474976710656) :
    Calls Tryz.prog 48 #[.string ⟨l.toArray⟩] w fun e w' => ∃ ev, e = .returned (.tuple #[.int .i64 (atoiV l), ev]) ∧ ∃ x : Ext w, w' = x.w := by
  cases h : atoiOk l
  · exact (atoi_bad l w g hs h).mono fun e w' ⟨N, he, hx⟩ => ⟨_, he, hx⟩
  · exact (atoi_ok l w hs h).mono fun e w' ⟨he, hx⟩ => ⟨_, he, hx⟩
theorem dsplit_any (l : List UInt8) (w : World) (g : Good w) (hs : l.length < 4294967281) (n : Nat) (hn : (splitC 32 l).length = n) :
    Calls Tryz.prog 46 #[.string ⟨l.toArray⟩, .string ⟨#[32]⟩] w fun e w' => e = .returned (.slice (some ⟨w.heap.size, 0, none⟩) n n) ∧ (∃ x : Ext w, w' = x.w) ∧ w.heap.size < w'.heap.size ∧
      ∀ j x, (splitC 32 l)[j]? = some x → w'.cell? ⟨w.heap.size, j, none⟩ = some (.string ⟨x.toArray⟩) ∧ w'.frozen? ⟨w.heap.size, j, none⟩ = false := by
  subst hn
  refine (split_any l 32 w g hs).mono fun e w' ⟨he, hw⟩ => ?_
  subst hw
  refine ⟨he, ((Up.refl w).alloc _).mk, by simp, fun j x hj => ?_⟩
  rw [alloc_at_cellI, alloc_at_frozenI]
  refine ⟨?_, rfl⟩
  have hj' : j < (splitC 32 l).length := (List.getElem?_eq_some_iff.1 hj).1
  simp only [List.getElem?_toArray, List.getElem?_map, hj, Option.map_some]
set_option maxHeartbeats 4000000 in
set_option maxRecDepth 100000 in
theorem dread_few (l : List UInt8) (w : World) (g : GoodD w) (hs : l.length < 4294967281) (h : (splitC 32 l).length < 9) : Gives Tryz.prog 16 #[.string ⟨l.toArray⟩] w (.tuple #[Ln.zero.val, .int .i64 382]) := by
  obtain ⟨n, hn⟩ : ∃ n, (splitC 32 l).length = n := ⟨_, rfl⟩
  have hsp := fun w g => dsplit_any l w g hs n hn
  rw [hn] at h
  have h9 : (n : Int) < 9 := by omega
  unfold Gives Ln.val Ln.zero
  clear hn
  go_enter Tryz.func16, Tryz.ntmps16
  go_wp2_with (go_at_call 46; refine (hsp _ (g.good.up upI)).mono ?_; rintro e w' ⟨rfl, ⟨x, rfl⟩, hB, hc⟩; have Hc := Lib.hid hc; clear hc)
  refine bodyPost_ret (v := Value.tuple #[.agg #[.int .u8 0, .int .u32 0, .int .u32 0, .int .u16 0, .int .u16 0, .int .u8 0, .int .u8 0, .bool false, .bool false, .int .i64 0, .int .i64 0], .int .i64 382]) (by simp [results, Tryz.results16, go_sem]) rfl ⟨rfl, mkI⟩
set_option maxHeartbeats 32000000 in
set_option maxRecDepth 100000 in
theorem dread_many (l : List UInt8) (w : World) (g : GoodD w) (hs : l.length ≤ 1000000000) (h : 9 ≤ (splitC 32 l).length) (v : Value)
    (hv : v = if (guess (splitC 32 l)).right && ((guess (splitC 32 l)).text == l) then .tuple #[(guess (splitC 32 l)).val, .int .i64 0] else .tuple #[Ln.zero.val, .int .i64 382]) :
    Gives Tryz.prog 16 #[.string ⟨l.toArray⟩] w v := by
  obtain ⟨ws, hws⟩ : ∃ ws, splitC 32 l = ws := ⟨_, rfl⟩
  obtain ⟨n, hn⟩ : ∃ n, ws.length = n := ⟨_, rfl⟩
  have hsp := fun w g => dsplit_any l w g (by omega) n (by rw [hws]; exact hn)
  have hlen := splitC_len 32 l
  have hcnt := splitC_count 32 l
  rw [hws] at h hv hsp hlen hcnt
  rw [hn] at hcnt
  have e3 := nth_some ws 3 (by omega); have e4 := nth_some ws 4 (by omega); have e5 := nth_some ws 5 (by omega); have e6 := nth_some ws 6 (by omega)
  have ed := nth_some ws (n - 3) (by omega); have es := nth_some ws (n - 1) (by omega)
  have ld : (ws.getD (n - 3) []).length ≤ l.length := hlen _ (List.mem_of_getElem? ed)
  have ls : (ws.getD (n - 1) []).length ≤ l.length := hlen _ (List.mem_of_getElem? es)
  have hjl : (joinW (ws.take 3)).length ≤ l.length + l.length + l.length + 3 := by
    refine Nat.le_trans (joinW_length _) ?_
    have h0 := nth_some ws 0 (by omega); have h1 := nth_some ws 1 (by omega); have h2 := nth_some ws 2 (by omega)
    have l0 := hlen _ (List.mem_of_getElem? h0); have l1 := hlen _ (List.mem_of_getElem? h1); have l2 := hlen _ (List.mem_of_getElem? h2)
    have ht : ws.take 3 = [ws.getD 0 [], ws.getD 1 [], ws.getD 2 []] := by
      rw [take_snoc3 ws 2 _ h2, take_snoc3 ws 1 _ h1, take_snoc3 ws 0 _ h0]; rfl
    rw [ht]
    simp only [List.map_cons, List.map_nil, List.sum_cons, List.sum_nil]
    omega
  obtain ⟨K, hK⟩ : ∃ K, joinW (ws.take 3) = K := ⟨_, rfl⟩
  rw [hK] at hjl
  have hgd : guess ws = ⟨kv (kvB K) (kPr K), kv (kvB K) (kS K), kv (kvB K) (kD K), kv (kvB K) (kSp K), kv (kvB K) (kDp K), if ws.getD 3 [] = outsideW then 1 else 0, clsN (ws.getD 4 []), ws.getD 5 [] == repliedW, ws.getD 6 [] == assuredW, atoiV (ws.getD (n - 3) []), atoiV (ws.getD (n - 1) [])⟩ := by
    unfold guess; simp only [hK, hn]
  have hb := guess_b ws
  rw [hgd] at hv hb
  have hwd : ∀ (W0 : World) (x : Ext W0), W0.heap.size < x.w.heap.size → Hid (∀ j y, ws[j]? = some y → x.w.cell? ⟨W0.heap.size, j, none⟩ = some (.string ⟨y.toArray⟩) ∧ x.w.frozen? ⟨W0.heap.size, j, none⟩ = false) →
      Calls Tryz.prog 36 #[.slice (some ⟨W0.heap.size, 0, none⟩) 3 n] x.w fun e w' => e = .returned (.string ⟨K.toArray⟩) ∧ (∃ y : Ext W0, w' = y.w) ∧ ∀ j, 3 ≤ j → w'.cell? ⟨W0.heap.size, j, none⟩ = x.w.cell? ⟨W0.heap.size, j, none⟩ := fun W0 x hB Hc => by
    have h3 : (ws.take 3).length = 3 := by rw [List.length_take]; omega
    have := dwords_any W0 x.w x.up W0.heap.size 0 n (ws.take 3) (Nat.le_refl _) hB (by omega) (by omega) (fun j y hj => by
      rw [List.getElem?_take] at hj
      split at hj
      · rw [Nat.zero_add]; exact Hc.out j y hj
      · cases hj) (by rw [hK]; omega)
    rw [h3, hK, Nat.zero_add] at this
    exact this
  have hrk := fun w g => (readKey_any K w g (by omega)).cast (kv_eq K)
  clear hjl hgd hlen hws hK
  generalize kv (kvB K) (kPr K) = q1 at *
  generalize kv (kvB K) (kS K) = q2 at *
  generalize kv (kvB K) (kD K) = q3 at *
  generalize kv (kvB K) (kSp K) = q4 at *
  generalize kv (kvB K) (kDp K) = q5 at *
  generalize kvE (kvB K) = q6 at *
  generalize ws.getD 3 [] = p3 at *
  generalize ws.getD 4 [] = p4 at *
  generalize ws.getD 5 [] = p5 at *
  generalize ws.getD 6 [] = p6 at *
  generalize ws.getD (n - 3) [] = pd at *
  generalize ws.getD (n - 1) [] = ps at *
  obtain ⟨m3, hm3⟩ : ∃ m : Nat, n - 3 = m := ⟨_, rfl⟩
  obtain ⟨m1, hm1⟩ : ∃ m : Nat, n - 1 = m := ⟨_, rfl⟩
  rw [hm3] at ed
  rw [hm1] at es
  have n3 : (n : Int) - 3 = (m3 : Int) := by omega
  have n1 : (n : Int) - 1 = (m1 : Int) := by omega
  have m30 : 3 ≤ m3 := by omega
  have m10 : 3 ≤ m1 := by omega
  have m3n : (m3 : Int) < (n : Int) := by omega
  have m1n : (m1 : Int) < (n : Int) := by omega
  have m3p : (0 : Int) ≤ (m3 : Int) := by omega
  have m1p : (0 : Int) ≤ (m1 : Int) := by omega
  have n9 : (9 : Int) ≤ (n : Int) := by omega
  have hw3 := wrap_len m3 l.length (by omega) hs
  have hw1 := wrap_len m1 l.length (by omega) hs
  clear hcnt
  have n99 : 9 ≤ n := hn ▸ h
  have E3 := Lib.hid e3; have E4 := Lib.hid e4; have E5 := Lib.hid e5; have E6 := Lib.hid e6; have ED := Lib.hid ed; have ES := Lib.hid es
  clear e3 e4 e5 e6 ed es hm3 hm1 h hn
  have HV := Lib.hid hv
  have HB := Lib.hid hb
  clear hv hb
  unfold Gives
  go_enter Tryz.func16, Tryz.ntmps16
  go_upto_region 1 with fail
  refine wp_letter (fun W0 => UpI w W0 ∧ LnAt W0 w.heap.size Ln.zero ∧ ∀ i, W0.frozen? ⟨w.heap.size, i, none⟩ = false) ⟨inferInstance, ⟨by simp [go_sem, Ln.zero], by simp [go_sem, Ln.zero], by simp [go_sem, Ln.zero], by simp [go_sem, Ln.zero], by simp [go_sem, Ln.zero], by simp [go_sem, Ln.zero], by simp [go_sem, Ln.zero], by simp [go_sem, Ln.zero], by simp [go_sem, Ln.zero], by simp [go_sem, Ln.zero], by simp [go_sem, Ln.zero]⟩, fun i => by simp [go_sem]⟩ ?_
  rintro W0 ⟨u0, hR0, hfR⟩
  haveI := hR0.lt
  have g0 := g.up u0.up
  obtain ⟨R, hR⟩ : ∃ R, w.heap.size = R := ⟨_, rfl⟩
  rw [hR] at hR0 hfR ⊢
  haveI := hR0.lt
  have hRw : Hid (w.heap.size = R) := hR
  clear hR
  go_upto_region 5 with (first
    | (go_at_call 46; refine (hsp _ (g0.good.up upI)).mono ?_; rintro e w' ⟨rfl, ⟨x, rfl⟩, hB, hc⟩; have Hc := Lib.hid hc; clear hc)
    | (go_at_call 36; refine (hwd W0 x hB Hc).mono ?_; rintro e w' ⟨rfl, ⟨y, rfl⟩, hk⟩; have Hk := Lib.hid hk; clear hk)
    | (go_at_call 47; refine (hrk _ (g0.good.up upI)).mono ?_; rintro e w' ⟨rfl, z, rfl⟩))
  have cB : ∀ j p, 3 ≤ j → ws[j]? = some p → z.w.cell? ⟨W0.heap.size, j, none⟩ = some (.string ⟨p.toArray⟩) := fun j p hj hp => z.up.cell_some ((Hk.out j hj).trans (Hc.out j p hp).1)
  refine wp_letter (fun W5 => UpI W0 W5 ∧ LnAt W5 R Ln.zero ∧ (W5.cell? ⟨z.w.heap.size, 0, none⟩ = some (.int .u8 q1) ∧ W5.cell? ⟨z.w.heap.size, 1, none⟩ = some (.int .u32 q2) ∧ W5.cell? ⟨z.w.heap.size, 2, none⟩ = some (.int .u32 q3) ∧ W5.cell? ⟨z.w.heap.size, 3, none⟩ = some (.int .u16 q4) ∧ W5.cell? ⟨z.w.heap.size, 4, none⟩ = some (.int .u16 q5)) ∧
    (W5.cell? ⟨W0.heap.size, 3, none⟩ = some (.string ⟨p3.toArray⟩) ∧ W5.cell? ⟨W0.heap.size, 4, none⟩ = some (.string ⟨p4.toArray⟩) ∧ W5.cell? ⟨W0.heap.size, 5, none⟩ = some (.string ⟨p5.toArray⟩) ∧ W5.cell? ⟨W0.heap.size, 6, none⟩ = some (.string ⟨p6.toArray⟩) ∧ W5.cell? ⟨W0.heap.size, m3, none⟩ = some (.string ⟨pd.toArray⟩) ∧ W5.cell? ⟨W0.heap.size, m1, none⟩ = some (.string ⟨ps.toArray⟩)))
    ⟨inferInstance, hR0.up upI, ⟨by simp [go_sem], by simp [go_sem], by simp [go_sem], by simp [go_sem], by simp [go_sem]⟩, ((Up.refl z.w).alloc _).cell_some (cB 3 _ (by omega) E3.out), ((Up.refl z.w).alloc _).cell_some (cB 4 _ (by omega) E4.out), ((Up.refl z.w).alloc _).cell_some (cB 5 _ (by omega) E5.out), ((Up.refl z.w).alloc _).cell_some (cB 6 _ (by omega) E6.out), ((Up.refl z.w).alloc _).cell_some (cB m3 _ m30 ED.out), ((Up.refl z.w).alloc _).cell_some (cB m1 _ m10 ES.out)⟩ ?_
  rintro W5 ⟨u5, hR5, ⟨k0, k1, k2, k3, k4⟩, b3, b4, b5, b6, bd, bs⟩
  clear cB
  have g5 := g0.up u5.up
  have hfR5 : ∀ i, W5.frozen? ⟨R, i, none⟩ = false := fun i => (u5.up.frozen_lt (lt_of_size W0 R)).trans (hfR i)
  obtain ⟨B, hBB⟩ : ∃ B, W0.heap.size = B := ⟨_, rfl⟩
  obtain ⟨KB, hKB⟩ : ∃ KB, z.w.heap.size = KB := ⟨_, rfl⟩
  rw [hBB] at b3 b4 b5 b6 bd bs ⊢
  rw [hKB] at k0 k1 k2 k3 k4 ⊢
  clear hBB hKB Hk Hc hwd hsp hrk
  haveI : LtSize B W5 := ⟨cell_lt b3⟩
  haveI : LtSize KB W5 := ⟨cell_lt k0⟩
  haveI := hR5.lt
  haveI : UpI w W5 := ⟨u0.up.trans u5.up⟩
  go_region
  obtain ⟨b1, hb1⟩ : ∃ b1, (p5 == repliedW) = b1 := ⟨_, rfl⟩
  obtain ⟨b2, hb2⟩ : ∃ b2, (p6 == assuredW) = b2 := ⟨_, rfl⟩
  rw [hb1, hb2] at HV HB
  unfold repliedW at hb1
  unfold assuredW at hb2
  rw [hb1, hb2]
  clear hb1 hb2
  go_upto_region 6 with fail
  refine wp_letter (fun W6 => UpI W5 W6 ∧ LnAt W6 W5.heap.size ⟨q1, q2, q3, q4, q5, 0, 0, b1, b2, 0, 0⟩ ∧ ∀ i, W6.frozen? ⟨W5.heap.size, i, none⟩ = false) ⟨inferInstance, ⟨by simp [go_sem], by simp [go_sem], by simp [go_sem], by simp [go_sem], by simp [go_sem], by simp [go_sem], by simp [go_sem], by simp [go_sem], by simp [go_sem], by simp [go_sem], by simp [go_sem]⟩, fun i => by simp [go_sem]⟩ ?_
  rintro W6 ⟨u6, hL6, fz⟩
  obtain ⟨L, hL⟩ : ∃ L, W5.heap.size = L := ⟨_, rfl⟩
  haveI : GeSize W5 L := ⟨by rw [hL]; exact Nat.le_refl _⟩
  rw [hL] at hL6 fz ⊢
  haveI : NeB L B := ⟨by have h1 : B < W5.heap.size := cell_lt b3; omega⟩
  haveI : NeB L R := ⟨by have h1 : R < W5.heap.size := hR5.lt.lt; omega⟩
  clear hL
  haveI := hL6.lt
  have hs1 := g5.side1
  haveI : LtSize 0 W5 := ⟨cell_lt hs1⟩
  unfold outsideW at hs1
  obtain ⟨sdv, hsd⟩ : ∃ sdv : Int, (if p3 = outsideW then (1 : Int) else 0) = sdv := ⟨_, rfl⟩
  rw [hsd] at HV HB
  have b3' := u6.up.cell_some b3
  have hs1' := u6.up.cell_some hs1
  haveI : LtSize B W6 := ⟨cell_lt b3'⟩
  haveI : LtSize 0 W6 := ⟨cell_lt hs1'⟩
  (refine wp_region_ext (by kernel_rfl) (by kernel_rfl) ?_; (repeat (go_big_quiet_step (fail))); refine wpQuiet_nil ?_; rintro _ ⟨y6, rfl⟩)
  clear b3' hs1'
  go_upto_if 39 with fail
  go_cut [40] (fun _ wx => (∃ x : Ext W5, wx = x.w) ∧ LnAt wx L ⟨q1, q2, q3, q4, q5, sdv, 0, b1, b2, 0, 0⟩ ∧ ∀ i, wx.frozen? ⟨L, i, none⟩ = false)
  case first =>
    obtain ⟨c0, c1, c2, c3, c4, c5, c6, c7, c8, c9, c10⟩ := hL6
    simp only at c0 c1 c2 c3 c4 c5 c6 c7 c8 c9 c10
    cases hp : (p3 == [111, 117, 116, 115, 105, 100, 101])
    · have fz5 := fz 5
      have h0 : sdv = 0 := by rw [← hsd]; exact if_neg (fun e => by rw [e] at hp; exact absurd hp (by decide))
      subst h0
      clear hsd
      go_wp2_with fail
      go_meet
      exact ⟨mkI, ⟨by first | (simp [go_sem]; done) | simp [go_sem, c0], by first | (simp [go_sem]; done) | simp [go_sem, c1], by first | (simp [go_sem]; done) | simp [go_sem, c2], by first | (simp [go_sem]; done) | simp [go_sem, c3], by first | (simp [go_sem]; done) | simp [go_sem, c4], by first | (simp [go_sem]; done) | simp [go_sem, c5], by first | (simp [go_sem]; done) | simp [go_sem, c6], by first | (simp [go_sem]; done) | simp [go_sem, c7], by first | (simp [go_sem]; done) | simp [go_sem, c8], by first | (simp [go_sem]; done) | simp [go_sem, c9], by first | (simp [go_sem]; done) | simp [go_sem, c10]⟩, fun i => by first | (simp [go_sem]; done) | simp [go_sem, fz i]⟩
    · have fz5 := fz 5
      have h1 : sdv = 1 := by rw [← hsd]; exact if_pos (by simpa [outsideW] using hp)
      subst h1
      clear hsd
      go_wp2_with fail
      go_meet
      exact ⟨mkI, ⟨by first | (simp [go_sem]; done) | simp [go_sem, c0], by first | (simp [go_sem]; done) | simp [go_sem, c1], by first | (simp [go_sem]; done) | simp [go_sem, c2], by first | (simp [go_sem]; done) | simp [go_sem, c3], by first | (simp [go_sem]; done) | simp [go_sem, c4], by first | (simp [go_sem]; done) | simp [go_sem, c5], by first | (simp [go_sem]; done) | simp [go_sem, c6], by first | (simp [go_sem]; done) | simp [go_sem, c7], by first | (simp [go_sem]; done) | simp [go_sem, c8], by first | (simp [go_sem]; done) | simp [go_sem, c9], by first | (simp [go_sem]; done) | simp [go_sem, c10]⟩, fun i => by first | (simp [go_sem]; done) | simp [go_sem, fz i]⟩
  case rest =>
    obtain ⟨⟨x7, rfl⟩, hL7, fz7⟩ := hcut
    clear hL6 hsd fz
    go_wp2_with fail
    go_loopw [41] (fun i wr => ∃ k : Nat, k ≤ 9 ∧ i = .int .u8 (k : Int) ∧ (∃ x : Ext W5, wr = x.w) ∧ LnAt wr L ⟨q1, q2, q3, q4, q5, sdv, clsF p4 k, b1, b2, 0, 0⟩ ∧ ∀ i, wr.frozen? ⟨L, i, none⟩ = false) (fun i _ => 9 - (intOf i).toNat)
    case atStart => exact ⟨0, by omega, rfl, mkI, hL7, fz7⟩
    case round =>
      clear hL7 fz7 x7
      obtain ⟨k, hk, rfl, ⟨x8, rfl⟩, hL8, fz⟩ := hrel
      haveI := hL8.lt
      by_cases hlt : k < 9
      · have hlt' : (k : Int) < 9 := by omega
        have k00 : (0 : Int) ≤ (k : Int) := by omega
        have hmod : ((k : Int) + 1) % 256 = (k : Int) + 1 := by omega
        have hcn := fun w g => className_any (k : Int) w g k00 (by omega)
        have hcf := clsF_succ p4 k
        generalize clsOf (k : Int) = ck at *
        go_wp2_with fail
        (refine wp_region_ext (by kernel_rfl) (by kernel_rfl) ?_; (repeat (go_big_quiet_step ((go_at_call 44; exact (hcn _ (g5.up upI)).ext)))); refine wpQuiet_nil ?_; rintro _ ⟨y8, rfl⟩)
        have fz6 := fz 6
        cases hq : (ck == p4)
        · rw [if_neg (fun e => by rw [e] at hq; simp at hq)] at hcf
          have Hcf := Lib.hid hcf
          have HL8 := Lib.hid hL8
          clear hcf hcn hL8
          go_wp2_with fail
          go_roundw
          case rel => exact ⟨k + 1, by omega, by go_num, mkI, by rw [Hcf.out]; exact HL8.out.up upI, fun i => by first | (simp [go_sem]; done) | simp [go_sem, fz i]⟩
          case measure => simp [intOf]; omega
        · rw [if_pos (by simpa using hq)] at hcf
          have Hcf := Lib.hid hcf
          obtain ⟨c0, c1, c2, c3, c4, c5, c6, c7, c8, c9, c10⟩ := hL8
          simp only at c0 c1 c2 c3 c4 c5 c6 c7 c8 c9 c10
          clear hcf hcn
          go_wp2_with fail
          go_roundw
          case rel => exact ⟨k + 1, by omega, by go_num, mkI, by rw [Hcf.out]; exact ⟨by first | (simp [go_sem]; done) | simp [go_sem, c0], by first | (simp [go_sem]; done) | simp [go_sem, c1], by first | (simp [go_sem]; done) | simp [go_sem, c2], by first | (simp [go_sem]; done) | simp [go_sem, c3], by first | (simp [go_sem]; done) | simp [go_sem, c4], by first | (simp [go_sem]; done) | simp [go_sem, c5], by first | (simp [go_sem]; done) | simp [go_sem, c6], by first | (simp [go_sem]; done) | simp [go_sem, c7], by first | (simp [go_sem]; done) | simp [go_sem, c8], by first | (simp [go_sem]; done) | simp [go_sem, c9], by first | (simp [go_sem]; done) | simp [go_sem, c10]⟩, fun i => by first | (simp [go_sem]; done) | simp [go_sem, fz i]⟩
          case measure => simp [intOf]; omega
      · have hk9 : (9 : Int) ≤ (k : Int) := by omega
        have hck : clsF p4 k = clsN p4 := by obtain rfl : k = 9 := by omega
                                             rfl
        rw [hck] at hL8
        clear hck hk hlt
        generalize clsN p4 = cv at *
        have ha1 := fun w g => datoi_any pd w g (by omega)
        have ha2 := fun w g => datoi_any ps w g (by omega)
        generalize atoiV pd = dv at *
        generalize atoiV ps = sv at *
        obtain ⟨c0, c1, c2, c3, c4, c5, c6, c7, c8, c9, c10⟩ := hL8
        simp only at c0 c1 c2 c3 c4 c5 c6 c7 c8 c9 c10
        have fz9 := fz 9
        have fz10 := fz 10
        go_upto_region 16 with (first
          | (go_at_call 48; (with_reducible refine (ha1 _ (g5.good.up upI)).mono ?_); rintro e w' ⟨ev1, rfl, z1, rfl⟩)
          | (go_at_call 48; (with_reducible refine (ha2 _ (g5.good.up upI)).mono ?_); rintro e w' ⟨ev2, rfl, z2, rfl⟩))
        refine wp_letter (fun W9 => UpI W5 W9 ∧ LnAt W9 L ⟨q1, q2, q3, q4, q5, sdv, cv, b1, b2, dv, sv⟩) ⟨inferInstance, ⟨by first | (simp [go_sem]; done) | simp [go_sem, c0], by first | (simp [go_sem]; done) | simp [go_sem, c1], by first | (simp [go_sem]; done) | simp [go_sem, c2], by first | (simp [go_sem]; done) | simp [go_sem, c3], by first | (simp [go_sem]; done) | simp [go_sem, c4], by first | (simp [go_sem]; done) | simp [go_sem, c5], by first | (simp [go_sem]; done) | simp [go_sem, c6], by first | (simp [go_sem]; done) | simp [go_sem, c7], by first | (simp [go_sem]; done) | simp [go_sem, c8], by first | (simp [go_sem]; done) | simp [go_sem, c9], by first | (simp [go_sem]; done) | simp [go_sem, c10]⟩⟩ ?_
        rintro W9 ⟨u9, hL9⟩
        have hR9 := hR5.up u9.up
        haveI : UpI w W9 := ⟨(u0.up.trans u5.up).trans u9.up⟩
        haveI : GeSize w R := ⟨by rw [← hRw.out]; exact Nat.le_refl _⟩
        haveI := hL9.lt
        haveI := hR9.lt
        have g9 := g5.up u9.up
        have htx := fun w g => dtext_any ⟨q1, q2, q3, q4, q5, sdv, cv, b1, b2, dv, sv⟩ w g HB.out
        have hv := HV.out
        clear HV HB ha1 ha2 fz fz9 fz10 c0 c1 c2 c3 c4 c5 c6 c7 c8 c9 c10
        obtain ⟨c0, c1, c2, c3, c4, c5, c6, c7, c8, c9, c10⟩ := hL9
        obtain ⟨r0, r1, r2, r3, r4, r5, r6, r7, r8, r9, r10⟩ := hR9
        simp only [Ln.zero] at c0 c1 c2 c3 c4 c5 c6 c7 c8 c9 c10 r0 r1 r2 r3 r4 r5 r6 r7 r8 r9 r10
        have Z : ∀ i, W9.frozen? ⟨R, i, none⟩ = false := fun i => (u9.up.frozen_lt (lt_of_size W5 R)).trans (hfR5 i)
        have z0 := Z 0; have z1' := Z 1; have z2' := Z 2; have z3 := Z 3; have z4 := Z 4; have z5 := Z 5; have z6 := Z 6; have z7 := Z 7; have z8 := Z 8; have z9 := Z 9; have z10 := Z 10
        clear Z hfR5
        unfold Ln.val textE at htx
        unfold Ln.val at hv
        cases hR : (Ln.right ⟨q1, q2, q3, q4, q5, sdv, cv, b1, b2, dv, sv⟩)
        · rw [hR] at hv htx
          rw [Bool.false_and, if_neg (by simp)] at hv
          subst hv
          simp only [Bool.false_eq_true, if_false] at htx
          clear hR
          go_wp2_with (go_at_call 15; refine (htx _ (g9.up upI)).mono ?_; rintro e w' ⟨rfl, x9, rfl⟩)
          refine bodyPost_ret (v := Value.tuple #[.agg #[.int .u8 0, .int .u32 0, .int .u32 0, .int .u16 0, .int .u16 0, .int .u8 0, .int .u8 0, .bool false, .bool false, .int .i64 0, .int .i64 0], .int .i64 382]) (by simp [results, Tryz.results16, go_sem, r0, r1, r2, r3, r4, r5, r6, r7, r8, r9, r10]) rfl ⟨rfl, mkI⟩
        · rw [hR] at hv htx
          rw [Bool.true_and] at hv
          simp only [if_true] at htx
          generalize Ln.text ⟨q1, q2, q3, q4, q5, sdv, cv, b1, b2, dv, sv⟩ = tx at *
          clear hR
          cases hT : (tx == l)
          · rw [hT, if_neg (by simp)] at hv
            subst hv
            go_wp2_with (go_at_call 15; refine (htx _ (g9.up upI)).mono ?_; rintro e w' ⟨rfl, x9, rfl⟩)
            refine bodyPost_ret (v := Value.tuple #[.agg #[.int .u8 0, .int .u32 0, .int .u32 0, .int .u16 0, .int .u16 0, .int .u8 0, .int .u8 0, .bool false, .bool false, .int .i64 0, .int .i64 0], .int .i64 382]) (by simp [results, Tryz.results16, go_sem, r0, r1, r2, r3, r4, r5, r6, r7, r8, r9, r10]) rfl ⟨rfl, mkI⟩
          · rw [hT, if_pos rfl] at hv
            subst hv
            go_wp2_with (go_at_call 15; refine (htx _ (g9.up upI)).mono ?_; rintro e w' ⟨rfl, x9, rfl⟩)
            refine bodyPost_ret (v := Value.tuple #[.agg #[.int .u8 q1, .int .u32 q2, .int .u32 q3, .int .u16 q4, .int .u16 q5, .int .u8 sdv, .int .u8 cv, .bool b1, .bool b2, .int .i64 dv, .int .i64 sv], .int .i64 0]) (by simp [results, Tryz.results16, go_sem, r0, r1, r2, r3, r4, r5, r6, r7, r8, r9, r10]) rfl ⟨rfl, mkI⟩
theorem dread_any (l : List UInt8) (w : World) (g : GoodD w) (hs : l.length ≤ 1000000000) : Gives Tryz.prog 16 #[.string ⟨l.toArray⟩] w (dreadV l) := by
  unfold dreadV readLn
  by_cases h : (splitC 32 l).length < 9
  · simp only [if_pos h]
    exact dread_few l w g (by omega) h
  · simp only [if_neg h]
    refine dread_many l w g hs (by omega) _ ?_
    split <;> rename_i h1
    · split at h1
      · rename_i h2; cases h1; rw [if_pos h2]
      · cases h1
    · split at h1
      · cases h1
      · rename_i h2; rw [if_neg h2]
end Go.Proofs.YtlbbepgfjigjpaaGreatDoor
