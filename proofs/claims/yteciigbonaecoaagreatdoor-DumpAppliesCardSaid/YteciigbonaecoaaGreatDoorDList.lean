/- The laws' own lines, out of small numbers. The laws' own dumps (plain): the first line of each key, in the order of keys. List of layer 38, walked. -/
import Derived.Test.YteciigbonaecoaaGreatDoorDApp
import Derived.Deep.RegionHeld3
import Derived.Laws.AppendOwnNone
namespace Go.Ab
open Go.RowKit Go.Proofs.YteciigbonaecoaaGreatDoor
/-- A line in small numbers. -/
structure Wd where
  pr : Int
  s : Int
  d : Int
  dp : Int
  sd : Int
  cl : Int
  fl : Int
  dl : Int
  sn : Int
structure WdB (x : Wd) : Prop where
  pr0 : 0 ≤ x.pr
  pr1 : x.pr < 256
  s0 : 0 ≤ x.s
  s1 : x.s < 256
  d0 : 0 ≤ x.d
  d1 : x.d < 256
  dp0 : 0 ≤ x.dp
  dp1 : x.dp < 256
  sd0 : 0 ≤ x.sd
  sd1 : x.sd < 256
  cl0 : 0 ≤ x.cl
  cl1 : x.cl < 256
  fl0 : 0 ≤ x.fl
  fl1 : x.fl < 256
  dl0 : 0 ≤ x.dl
  dl1 : x.dl < 65536
  sn0 : 0 ≤ x.sn
  sn1 : x.sn < 65536
def Wd.cells (x : Wd) : List Value := [.int .u8 x.pr, .int .u8 x.s, .int .u8 x.d, .int .u8 x.dp, .int .u8 x.sd, .int .u8 x.cl, .int .u8 x.fl, .int .u16 x.dl, .int .u16 x.sn]
def prD (p : Int) : Int := if p % 3 = 0 then 6 else if p % 3 = 1 then 17 else 1
def madeL (x : Wd) : Ln := ⟨prD x.pr, 167772160 + x.s % 4, 184549376 + x.d % 4, x.dp % 3, 80, x.sd % 2, x.cl % 9, decide (0 < x.fl % 3), x.fl % 3 == 2, x.dl, x.sn⟩
theorem ln_all (x : Ln) : x.cells.toArray.all (·.oneCell') = true := Array.all_eq_true_iff_forall_mem.2 (fun u hu => x.one u (by simpa using hu))
theorem prD_cases (p : Int) : prD p = 6 ∨ prD p = 17 ∨ prD p = 1 := by
  unfold prD
  split
  · exact .inl rfl
  · split
    · exact .inr (.inl rfl)
    · exact .inr (.inr rfl)
end Go.Ab
namespace Go.Proofs.YteciigbonaecoaaGreatDoor
open Go.RowKit Go.Ab
set_option maxHeartbeats 16000000 in
set_option maxRecDepth 100000 in
theorem dmade_any (x : Wd) (w : World) (hx : WdB x) : Gives Tryz.prog 27 #[.agg x.cells.toArray] w (.agg (madeL x).cells.toArray) := by
  obtain ⟨pr, s, d, dp, sd, cl, fl, dl, sn⟩ := x
  obtain ⟨pr0, pr1, s0, s1, d0, d1, dp0, dp1, sd0, sd1, cl0, cl1, fl0, fl1, dl0, dl1, sn0, sn1⟩ := hx
  simp only at pr0 pr1 s0 s1 d0 d1 dp0 dp1 sd0 sd1 cl0 cl1 fl0 fl1 dl0 dl1 sn0 sn1
  unfold madeL Ln.cells Wd.cells
  simp only
  have h1 : pr.tmod 3 = pr % 3 := Int.tmod_eq_emod_of_nonneg pr0
  have h2 : s.tmod 4 = s % 4 := Int.tmod_eq_emod_of_nonneg s0
  have h3 : d.tmod 4 = d % 4 := Int.tmod_eq_emod_of_nonneg d0
  have h4 : dp.tmod 3 = dp % 3 := Int.tmod_eq_emod_of_nonneg dp0
  have h5 : sd.tmod 2 = sd % 2 := Int.tmod_eq_emod_of_nonneg sd0
  have h6 : cl.tmod 9 = cl % 9 := Int.tmod_eq_emod_of_nonneg cl0
  have h7 : fl.tmod 3 = fl % 3 := Int.tmod_eq_emod_of_nonneg fl0
  have q2 : 0 ≤ s % 4 ∧ s % 4 < 4 := by omega
  have q3 : 0 ≤ d % 4 ∧ d % 4 < 4 := by omega
  have q4 : 0 ≤ dp % 3 ∧ dp % 3 < 3 := by omega
  have q5 : 0 ≤ sd % 2 ∧ sd % 2 < 2 := by omega
  have q6 : 0 ≤ cl % 9 ∧ cl % 9 < 9 := by omega
  have q7 : 0 ≤ fl % 3 ∧ fl % 3 < 3 := by omega
  obtain ⟨k, hk⟩ : ∃ k : Nat, pr % 3 = (k : Int) := ⟨(pr % 3).toNat, by omega⟩
  have hk3 : k < 3 := by omega
  have hpd : prD pr = prD (k : Int) := by unfold prD; rw [hk]; rcases (by omega : k = 0 ∨ k = 1 ∨ k = 2) with rfl | rfl | rfl <;> rfl
  have hi : ∀ w, (Instr.index 129 (.agg #[.int .u8 6, .int .u8 17, .int .u8 1]) (.int .u8 (k : Int))).run Tryz.prog w = .ok (.int .u8 (prD (k : Int))) w := by
    intro w
    rcases (by omega : k = 0 ∨ k = 1 ∨ k = 2) with rfl | rfl | rfl <;> kernel_rfl
  rw [hpd]
  rw [hk] at h1
  clear hpd hk
  generalize s % 4 = s' at *
  generalize d % 4 = d' at *
  generalize dp % 3 = dp' at *
  generalize sd % 2 = sd' at *
  generalize cl % 9 = cl' at *
  generalize fl % 3 = fl' at *
  generalize prD (k : Int) = P at *
  obtain ⟨q20, q21⟩ := q2
  obtain ⟨q30, q31⟩ := q3
  obtain ⟨q40, q41⟩ := q4
  obtain ⟨q50, q51⟩ := q5
  obtain ⟨q60, q61⟩ := q6
  obtain ⟨q70, q71⟩ := q7
  have e1 : IntKind.u32.wrap s' = s' := by simp [IntKind.wrap, IntKind.bits, IntKind.signed]; omega
  have e2 : IntKind.u32.wrap d' = d' := by simp [IntKind.wrap, IntKind.bits, IntKind.signed]; omega
  have e3 : IntKind.u16.wrap dp' = dp' := by simp [IntKind.wrap, IntKind.bits, IntKind.signed]; omega
  have e4 : IntKind.i64.wrap dl = dl := by simp [IntKind.wrap, IntKind.bits, IntKind.signed]; omega
  have e5 : IntKind.i64.wrap sn = sn := by simp [IntKind.wrap, IntKind.bits, IntKind.signed]; omega
  have e6 : bits BinOp.or IntKind.u32 167772160 s' = 167772160 + s' := by rcases (by omega : s' = 0 ∨ s' = 1 ∨ s' = 2 ∨ s' = 3) with rfl | rfl | rfl | rfl <;> rfl
  have e7 : bits BinOp.or IntKind.u32 184549376 d' = 184549376 + d' := by rcases (by omega : d' = 0 ∨ d' = 1 ∨ d' = 2 ∨ d' = 3) with rfl | rfl | rfl | rfl <;> rfl
  unfold Gives
  go_enter Tryz.func27, Tryz.ntmps27
  go_upto_region 1 with fail
  obtain ⟨B, hB⟩ : ∃ B, w.heap.size = B := ⟨_, rfl⟩
  rw [hB]
  have hz : ∀ j, (w.alloc (.cells #[.int .u8 pr, .int .u8 s, .int .u8 d, .int .u8 dp, .int .u8 sd, .int .u8 cl, .int .u8 fl, .int .u16 dl, .int .u16 sn] 77)).cell? ⟨B, j, none⟩ = #[Value.int .u8 pr, .int .u8 s, .int .u8 d, .int .u8 dp, .int .u8 sd, .int .u8 cl, .int .u8 fl, .int .u16 dl, .int .u16 sn][j]? := fun j => World.cell?_alloc_at _ _ _ _ hB.symm
  refine wp_letter (fun W => UpI w W ∧ B + 1 < W.heap.size ∧ W.heap[B + 1]? = some (.cells Ln.zero.cells.toArray 44 (0, 0)) ∧ (∀ j, W.cell? ⟨B, j, none⟩ = #[Value.int .u8 pr, .int .u8 s, .int .u8 d, .int .u8 dp, .int .u8 sd, .int .u8 cl, .int .u8 fl, .int .u16 dl, .int .u16 sn][j]?))
    ⟨inferInstance, by simp; omega, ?_, ?_⟩ ?_
  · exact alloc_new (by rw [World.size_alloc, hB])
  · exact fun j => (World.cell?_alloc_lt _ _ _ (by rw [World.size_alloc]; show B < _; omega)).trans (hz j)
  rintro W ⟨uW, hBW, hR, hc⟩
  haveI := uW
  haveI : LtSize B W := ⟨by omega⟩
  haveI : LtSize (B + 1) W := ⟨hBW⟩
  have f0 := (hc 0).trans (rfl : _ = some _); have f1 := (hc 1).trans (rfl : _ = some _); have f2 := (hc 2).trans (rfl : _ = some _); have f3 := (hc 3).trans (rfl : _ = some _); have f4 := (hc 4).trans (rfl : _ = some _); have f5 := (hc 5).trans (rfl : _ = some _); have f6 := (hc 6).trans (rfl : _ = some _); have f7 := (hc 7).trans (rfl : _ = some _); have f8 := (hc 8).trans (rfl : _ = some _)
  have hwB : w.heap.size ≤ B := by omega
  clear hc hz hB
  have HR := Lib.hid hR
  clear hR
  go_region_held3 (fun w' => UpI W w' ∧ w'.cell? ⟨B, 0, none⟩ = some (.int .u8 pr) ∧ w'.cell? ⟨B, 1, none⟩ = some (.int .u8 s) ∧ w'.cell? ⟨B, 2, none⟩ = some (.int .u8 d) ∧ w'.cell? ⟨B, 3, none⟩ = some (.int .u8 dp) ∧ w'.cell? ⟨B, 4, none⟩ = some (.int .u8 sd) ∧ w'.cell? ⟨B, 5, none⟩ = some (.int .u8 cl) ∧ w'.cell? ⟨B, 6, none⟩ = some (.int .u8 fl) ∧ w'.cell? ⟨B, 7, none⟩ = some (.int .u16 dl) ∧ w'.cell? ⟨B, 8, none⟩ = some (.int .u16 sn)) (exact ⟨inferInstance, (upI : Up W _).cell_some' f0, (upI : Up W _).cell_some' f1, (upI : Up W _).cell_some' f2, (upI : Up W _).cell_some' f3, (upI : Up W _).cell_some' f4, (upI : Up W _).cell_some' f5, (upI : Up W _).cell_some' f6, (upI : Up W _).cell_some' f7, (upI : Up W _).cell_some' f8⟩) (fail)
  all_goals
    have hz2 : (W.alloc (.cells (Ln.mk P (167772160 + s') (184549376 + d') dp' 80 sd' cl' (decide (0 < fl')) (fl' == 2) dl sn).cells.toArray 44)).drew.heap[B + 1]? = some (.cells Ln.zero.cells.toArray 44 (0, 0)) := (Below.heap_alloc W _ (B + 1) hBW).trans HR.out
    go_upto_region 2 with fail
    refine wp_region_lit ?_
    refine wpList_step (fun K hK => ?_)
    go_simp
    refine hK _ _ ?_; clear hK K
    refine wpList_store_row rfl 44 _ _ rfl (B + 1) (Ln.mk P (167772160 + s') (184549376 + d') dp' 80 sd' cl' (decide (0 < fl')) (fl' == 2) dl sn).cells.toArray rfl rfl 44 Ln.zero.cells.toArray hz2 lnSize rfl (ln_all _) ?_
    have hz4 := setRow_heap _ (B + 1) _ (Ln.mk P (167772160 + s') (184549376 + d') dp' 80 sd' cl' (decide (0 < fl')) (fl' == 2) dl sn).cells.toArray _ _ hz2
    go_wp2_with fail
    refine bodyPost_ret (v := .agg (Ln.mk P (167772160 + s') (184549376 + d') dp' 80 sd' cl' (decide (0 < fl')) (fl' == 2) dl sn).cells.toArray) (by simp [results, Tryz.results27, asAddr, Act.put]; exact run_loadVar_row _ (B + 1) 44 44 _ (0, 0) _ hz4 Tryz.underlying44 rfl lnSize) rfl ?_
    exact ⟨rfl, (up_setRowG ((uW.up.alloc _).drew) (by omega) _).mk⟩
end Go.Proofs.YteciigbonaecoaaGreatDoor
namespace Go.Ab
open Go.RowKit Go.Proofs.YteciigbonaecoaaGreatDoor
/-- Where a line goes: behind those of smaller keys. -/
def insAt (x : Ln) : List Ln → Nat
  | [] => 0
  | y :: t => if y.cmp x < 0 then insAt x t + 1 else 0
def insL (x : Ln) (out : List Ln) : List Ln :=
  match out[insAt x out]? with
  | none => out ++ [x]
  | some y => if keyB y x then out else out.take (insAt x out) ++ x :: out.drop (insAt x out)
def listFrom (out : List Ln) (l : List Wd) : List Ln := l.foldl (fun out w => insL (madeL w) out) out
def listL (l : List Wd) : List Ln := listFrom [] (l.take 30)
theorem insAt_le (x : Ln) : ∀ out : List Ln, insAt x out ≤ out.length
  | [] => Nat.le_refl _
  | y :: t => by
    have := insAt_le x t
    rw [insAt, List.length_cons]
    split <;> omega
theorem insAt_lo (x : Ln) : ∀ (out : List Ln) (j : Nat) (y : Ln), j < insAt x out → out[j]? = some y → y.cmp x < 0
  | [], j, y, h, _ => by rw [insAt] at h; omega
  | z :: t, j, y, h, hy => by
    rw [insAt] at h
    split at h
    · rename_i hz
      cases j with
      | zero => simp only [List.getElem?_cons_zero, Option.some.injEq] at hy; subst hy; exact hz
      | succ j => exact insAt_lo x t j y (by omega) (by simpa using hy)
    · omega
theorem insAt_hi (x : Ln) : ∀ (out : List Ln) (y : Ln), out[insAt x out]? = some y → 0 ≤ y.cmp x
  | [], y, h => by simp [insAt] at h
  | z :: t, y, h => by
    rw [insAt] at h
    split at h
    · exact insAt_hi x t y (by simpa using h)
    · rename_i hz
      simp only [List.getElem?_cons_zero, Option.some.injEq] at h
      subst h; omega
theorem insL_mem (x : Ln) (out : List Ln) (z : Ln) (h : z ∈ insL x out) : z = x ∨ z ∈ out := by
  unfold insL at h
  split at h
  · rcases List.mem_append.1 h with h | h
    · exact .inr h
    · exact .inl (List.mem_singleton.1 h)
  · split at h
    · exact .inr h
    · rcases List.mem_append.1 h with h | h
      · exact .inr (List.mem_of_mem_take h)
      · rcases List.mem_cons.1 h with h | h
        · exact .inl h
        · exact .inr (List.mem_of_mem_drop h)
theorem insL_len (x : Ln) (out : List Ln) : (insL x out).length ≤ out.length + 1 := by
  unfold insL
  split
  · simp
  · split
    · omega
    · rw [List.length_append, List.length_cons, List.length_take, List.length_drop]; omega
theorem insL_srt (x : Ln) (out : List Ln) (h : Srt out) : Srt (insL x out) := by
  have hlo := insAt_lo x out
  have hhi := insAt_hi x out
  have hle := insAt_le x out
  have htake : ∀ z ∈ out.take (insAt x out), z.cmp x < 0 := fun z hz => by
    obtain ⟨j, hj⟩ := List.getElem?_of_mem hz
    rw [List.getElem?_take] at hj
    split at hj
    · exact hlo j z (by assumption) hj
    · cases hj
  unfold insL
  split
  · rename_i hn
    have hall : insAt x out = out.length := by
      have := List.getElem?_eq_none_iff.1 hn
      omega
    rw [hall, List.take_length] at htake
    unfold Srt
    rw [List.pairwise_append]
    exact ⟨h, List.pairwise_singleton _ _, fun a ha b hb => by obtain rfl := List.mem_singleton.1 hb; exact htake a ha⟩
  · rename_i y hy
    split
    · exact h
    · rename_i hk
      have hxy : x.cmp y < 0 := by
        have h1 := hhi y hy
        have h2 := cmp_neg x y
        have h3 : y.cmp x ≠ 0 := fun e => hk (by rw [keyB_cmp]; simp [e])
        omega
      have hs := h
      unfold Srt at hs ⊢
      rw [← List.take_append_drop (insAt x out) out, List.pairwise_append] at hs
      obtain ⟨p1, p2, p3⟩ := hs
      have hd : out.drop (insAt x out) = y :: out.drop (insAt x out + 1) := by
        obtain ⟨hl, rfl⟩ := List.getElem?_eq_some_iff.1 hy
        exact List.drop_eq_getElem_cons hl
      have hx : ∀ z ∈ out.drop (insAt x out), x.cmp z < 0 := fun z hz => by
        rw [hd] at hz p2
        rcases List.mem_cons.1 hz with rfl | hz
        · exact hxy
        · exact cmp_lt_trans hxy ((List.pairwise_cons.1 p2).1 z hz)
      rw [List.pairwise_append]
      refine ⟨p1, List.pairwise_cons.2 ⟨hx, p2⟩, fun a ha b hb => ?_⟩
      rcases List.mem_cons.1 hb with rfl | hb
      · exact htake a ha
      · exact p3 a ha b hb
theorem listFrom_srt : ∀ (l : List Wd) (out : List Ln), Srt out → Srt (listFrom out l)
  | [], _, h => h
  | w :: t, out, h => listFrom_srt t _ (insL_srt (madeL w) out h)
theorem listFrom_mem : ∀ (l : List Wd) (out : List Ln) (z : Ln), z ∈ listFrom out l → z ∈ out ∨ ∃ w ∈ l, z = madeL w
  | [], _, z, h => .inl h
  | w :: t, out, z, h => by
    rcases listFrom_mem t _ z h with h | ⟨v, hv, rfl⟩
    · rcases insL_mem _ _ _ h with rfl | h
      · exact .inr ⟨w, by simp, rfl⟩
      · exact .inl h
    · exact .inr ⟨v, by simp [hv], rfl⟩
theorem listFrom_len : ∀ (l : List Wd) (out : List Ln), (listFrom out l).length ≤ out.length + l.length
  | [], out => Nat.le_refl _
  | w :: t, out => by
    have h1 := listFrom_len t (insL (madeL w) out)
    have h2 := insL_len (madeL w) out
    show (listFrom (insL (madeL w) out) t).length ≤ _
    rw [List.length_cons]; omega
theorem madeL_b (x : Wd) (h : WdB x) : LnB (madeL x) := by
  obtain ⟨pr0, pr1, s0, s1, d0, d1, dp0, dp1, sd0, sd1, cl0, cl1, fl0, fl1, dl0, dl1, sn0, sn1⟩ := h
  have hp := prD_cases x.pr
  constructor
  · constructor <;> (simp only [madeL]; omega)
  all_goals (simp only [madeL]; omega)
theorem madeL_right (x : Wd) (h : WdB x) : (madeL x).right = true := by
  obtain ⟨pr0, pr1, s0, s1, d0, d1, dp0, dp1, sd0, sd1, cl0, cl1, fl0, fl1, dl0, dl1, sn0, sn1⟩ := h
  unfold Ln.right madeL
  simp only [Bool.and_eq_true, decide_eq_true_eq, Bool.or_eq_true, Bool.not_eq_true']
  refine ⟨⟨⟨⟨by omega, by omega⟩, ?_⟩, by omega⟩, by omega⟩
  by_cases h2 : x.fl % 3 = 2
  · exact .inl (by omega)
  · exact .inr (by simpa using h2)
theorem ordered_of_srt (l : List Ln) (hs : Srt l) (hr : ∀ x ∈ l, x.right = true) : orderedL l = true := by
  refine ordered_yes fun k hk => ?_
  have hx : l[k]? = some l[k] := List.getElem?_eq_getElem hk
  cases k with
  | zero => rw [okAt_zero l _ hx]; exact hr _ (List.mem_of_getElem? hx)
  | succ k =>
    have hy : l[k]? = some l[k] := List.getElem?_eq_getElem (by omega)
    rw [okAt_succ l k _ _ hx hy, hr _ (List.mem_of_getElem? hx), Bool.true_and]
    exact decide_eq_true ((List.pairwise_iff_getElem.1 hs) k (k + 1) (by omega) hk (by omega))
theorem listL_srt (l : List Wd) : Srt (listL l) := listFrom_srt _ [] .nil
theorem listL_ordered (l : List Wd) (h : ∀ x ∈ l, WdB x) : orderedL (listL l) = true :=
  ordered_of_srt _ (listL_srt l) fun z hz => by
    rcases listFrom_mem _ _ z hz with h1 | ⟨w, hw, rfl⟩
    · cases h1
    · exact madeL_right w (h w (List.mem_of_mem_take hw))
theorem listL_b (l : List Wd) (h : ∀ x ∈ l, WdB x) : ∀ z ∈ listL l, LnB z := fun z hz => by
  rcases listFrom_mem _ _ z hz with h1 | ⟨w, hw, rfl⟩
  · cases h1
  · exact madeL_b w (h w (List.mem_of_mem_take hw))
theorem listL_len (l : List Wd) : (listL l).length ≤ 30 := by
  have := listFrom_len (l.take 30) []
  rw [List.length_take] at this
  simp only [List.length_nil] at this
  unfold listL; omega
end Go.Ab
namespace Go.Ab
open Go.RowKit Go.Proofs.YteciigbonaecoaaGreatDoor
def WdRow (w : World) (v : Value) (l : List Wd) : Prop := RowOf Wd.cells 9 w v l
theorem listFrom_snoc (l : List Wd) (k : Nat) (x : Wd) (h : l[k]? = some x) : listFrom [] (l.take (k + 1)) = insL (madeL x) (listFrom [] (l.take k)) := by
  obtain ⟨hk, rfl⟩ := List.getElem?_eq_some_iff.1 h
  unfold listFrom
  rw [List.take_succ_eq_append_getElem hk, List.foldl_append]; rfl
theorem fresh_own (X : World) (n : Nat) {base size : Nat} {e : TypeId} (h : X.heap.size = n) (hb : base ≤ n) : (X.alloc (.cells #[] e)).ownsRow base e size (.slice (some ⟨n, 0, none⟩) 0 0) 0 [] := by
  subst h; exact World.ownsRow_made X #[] 0 hb (by decide) (by simp)
theorem add_zero_off (g t : Nat) : Addr.add ⟨g, 0, none⟩ t = ⟨g, t, none⟩ := by cases t <;> simp [Addr.add]
theorem add_off (g o t : Nat) : Addr.add ⟨g, o, none⟩ t = ⟨g, o + t, none⟩ := by cases t <;> simp [Addr.add]
theorem own_cell {w : World} {base : Nat} {e : TypeId} {g n cap : Nat} {xs : List Value} (h : w.ownsRow base e 11 (.slice (some ⟨g, 0, none⟩) n cap) n xs) (t : Nat) (u : Value) (hu : xs[t]? = some u) : w.cell? ⟨g, t, none⟩ = some u := by
  obtain ⟨hl, ⟨h0, _⟩ | ⟨g', cap', cur, hv, _, hg, _, _, _, h4⟩⟩ := h
  · cases h0
  · simp only [Value.slice.injEq, Option.some.injEq, Addr.mk.injEq, and_true] at hv
    obtain ⟨rfl, _, rfl⟩ := hv
    rw [cell_of_row w g t _ _ _ hg, ← Array.getElem?_toList]
    rw [← h4, List.getElem?_take] at hu
    split at hu
    · exact hu
    · cases hu
theorem row_ln {w : World} {n : Nat} {x : Ln} {t : TypeId} (h : w.heap[n]? = some (.cells x.cells.toArray t (0, 0))) (j : Nat) (u : Value) (hu : x.cells[j]? = some u) : w.cell? (Addr.add ⟨n, 0, none⟩ j) = some u := by
  rw [add_zero_off, cell_of_row w n j _ _ _ h]; simpa using hu
theorem ln_at2 (X : World) (n : Nat) (h : X.heap.size = n) (x : Ln) (t : TypeId) (j : Nat) (u : Value) (hu : x.cells[j]? = some u) : (X.alloc (.cells x.cells.toArray t)).cell? (Addr.add ⟨n, 0, none⟩ j) = some u := by subst h; exact ln_at X x t j u hu
theorem step_append_none {P : Program} {Q : Exit → Act → World → Prop} {ops : Array Oper} {o : Oper} {a : Act} {w : World} {K : Act → World → Prop} {E : Prop} (hgd : o.guard = none) (s x : Operand) (t : TypeId)
    (hop : o.op = Op.call { callee := Callee.builtin Builtin.append, args := #[s, x], argTypes := #[t, t] }) (base : Nat) (e : TypeId) (i : TypeInfo) (size : Nat) (ht : P.underlying t = some (.slice e)) (hi : P.info? e = some i)
    (v : Value) (n : Nat) (xs : List Value) (hs : a.eval s = v) (hown : w.ownsRow base e size v n xs) (hx : a.eval x = .slice none 0 0) (hK : K (a.put o.dst v) w) :
    if Region.wanted o (yielded ops a.tmps) = true then o.wp P a w K Q else E := by
  have hw : Region.wanted o (yielded ops a.tmps) = true := by simp [Region.wanted, hgd]
  rw [if_pos hw]
  have hrun := run_append_owned_none (P := P) (w := w) base t o.type e i size ht hi v n xs hown
  unfold Oper.wp
  simp [execOp, hop, resolve, invoke, builtin, hs, hx, hrun, Result.andThen]
  exact hK
theorem insAt_step (x y : Ln) (M : List Ln) (j : Nat) (h : M[j]? = some y) (hj : j ≤ insAt x M) : (y.cmp x < 0 → j + 1 ≤ insAt x M) ∧ (¬ y.cmp x < 0 → insAt x M = j) := by
  constructor
  · intro hc
    rcases Nat.lt_or_eq_of_le hj with h1 | h1
    · exact h1
    · exfalso
      have := insAt_hi x M y (by rw [← h1]; exact h)
      omega
  · intro hc
    rcases Nat.lt_or_eq_of_le hj with h1 | h1
    · exact absurd (insAt_lo x M j y h1 h) hc
    · exact h1.symm
end Go.Ab
namespace Go.Proofs.YteciigbonaecoaaGreatDoor
open Go.RowKit Go.Ab
attribute [local go_sem high] eq_key
set_option maxHeartbeats 32000000 in
set_option maxRecDepth 100000 in
theorem dlist_any (l : List Wd) (v : Value) (w : World) (hv : WdRow w v l) (hb : ∀ x ∈ l, WdB x) (hl : l.length ≤ 9223372036854775807) :
    Calls Tryz.prog 18 #[v] w fun e w' => ∃ u, e = .returned u ∧ w'.ownsRow w.heap.size 44 11 u (listL l).length ((listL l).flatMap Ln.cells) ∧ ∃ x : Ext w, w' = x.w := by
  obtain ⟨p, cap, rfl, hle, hc⟩ := hv
  obtain ⟨N, hN⟩ : ∃ N, l.length = N := ⟨_, rfl⟩
  rw [hN] at hle hl ⊢
  have HN := Lib.hid hN
  have Hc := Lib.hid hc
  have Hb := Lib.hid hb
  clear hN hc hb
  obtain ⟨n, hn⟩ : ∃ n, min N 30 = n := ⟨_, rfl⟩
  have hmin : min (N : Int) 30 = (n : Int) := by omega
  have hmax : max (n : Int) 0 = (n : Int) := by omega
  have hnN : n ≤ N := by omega
  have hn30 : n ≤ 30 := by omega
  have HT := Lib.hid (show listL l = listFrom [] (l.take n) by
    unfold listL
    rcases Nat.le_total N 30 with h | h
    · rw [List.take_of_length_le (by rw [HN.out]; exact h), List.take_of_length_le (by rw [HN.out]; omega)]
    · rw [show n = 30 by omega])
  clear hn
  go_enter Tryz.func18, Tryz.ntmps18
  go_upto_region 3 with fail
  go_loopw [3, 14] (fun out i wr => ∃ (k : Nat) (M : List Ln), k ≤ n ∧ i = .int .i64 (k : Int) ∧ Hid (M = listFrom [] (l.take k)) ∧ M.length ≤ k ∧ Hid (wr.ownsRow w.heap.size 44 11 out M.length (M.flatMap Ln.cells)) ∧ Up w wr) (fun _ i _ => n - (intOf i).toNat)
  case atStart => exact ⟨0, [], Nat.zero_le _, rfl, Lib.hid rfl, Nat.le_refl _, Lib.hid (World.ownsRow_nil _ _ _ _), Up.refl w⟩
  case round =>
    obtain ⟨k, M, hk, rfl, HM, hMl, Hown, hu⟩ := hrel
    haveI : UpI w wr := ⟨hu⟩
    by_cases hlt : k < n
    · have hlt' : (k : Int) < (n : Int) := by omega
      have k0 : (0 : Int) ≤ (k : Int) := by omega
      obtain ⟨x, hx⟩ : ∃ x, l[k]? = some x := ⟨_, List.getElem?_eq_getElem (by rw [HN.out]; omega)⟩
      obtain ⟨b1, o1, rfl, hb1, hc1⟩ := Hc.out k x hx
      have c0 := hu.cell_some (hc1 0 _ rfl); have c1 := hu.cell_some (hc1 1 _ rfl); have c2 := hu.cell_some (hc1 2 _ rfl); have c3 := hu.cell_some (hc1 3 _ rfl); have c4 := hu.cell_some (hc1 4 _ rfl); have c5 := hu.cell_some (hc1 5 _ rfl); have c6 := hu.cell_some (hc1 6 _ rfl); have c7 := hu.cell_some (hc1 7 _ rfl); have c8 := hu.cell_some (hc1 8 _ rfl)
      rw [Nat.add_zero] at c0
      haveI : LtSize b1 wr := ⟨Nat.lt_of_lt_of_le hb1 hu.size⟩
      have hmd := fun W => dmade_any x W (Hb.out x (List.mem_of_getElem? hx))
      have HMs := Lib.hid (show listFrom [] (l.take (k + 1)) = insL (madeL x) M by rw [listFrom_snoc l k x hx, HM.out])
      have hyb := madeL_b x (Hb.out x (List.mem_of_getElem? hx))
      have hMb : ∀ z ∈ M, LnB z := fun z hz => by
        rw [HM.out] at hz
        rcases listFrom_mem _ _ z hz with h1 | ⟨v, hv, rfl⟩
        · cases h1
        · exact madeL_b v (Hb.out v (List.mem_of_mem_take hv))
      have HMb := Lib.hid hMb
      clear hc1 hx hMb
      unfold Ln.cells Wd.cells at hmd
      generalize madeL x = y at *
      go_upto_region 6 with (go_at_call 27; refine (hmd _).mono ?_; rintro e w' ⟨rfl, z, rfl⟩)
      obtain ⟨q, hq⟩ : ∃ q, z.w.heap.size = q := ⟨_, rfl⟩
      have hwq : w.heap.size ≤ q := by rw [← hq]; exact (upI : Up w z.w).size
      have hgq : ∀ g', u3.ownBlock = some g' → g' < q := fun g' h => by rw [← hq]; exact Nat.lt_of_lt_of_le (Hown.out.lt g' h).2 (upI : Up wr z.w).size
      rw [hq]
      refine wp_letter (fun W => UpI w W ∧ LnAt W q y ∧ W.ownsRow w.heap.size 44 11 u3 M.length (M.flatMap Ln.cells))
        ⟨inferInstance, ⟨(World.cell?_alloc_at _ _ _ 0 hq.symm).trans rfl, (World.cell?_alloc_at _ _ _ 1 hq.symm).trans rfl, (World.cell?_alloc_at _ _ _ 2 hq.symm).trans rfl, (World.cell?_alloc_at _ _ _ 3 hq.symm).trans rfl, (World.cell?_alloc_at _ _ _ 4 hq.symm).trans rfl, (World.cell?_alloc_at _ _ _ 5 hq.symm).trans rfl, (World.cell?_alloc_at _ _ _ 6 hq.symm).trans rfl, (World.cell?_alloc_at _ _ _ 7 hq.symm).trans rfl, (World.cell?_alloc_at _ _ _ 8 hq.symm).trans rfl, (World.cell?_alloc_at _ _ _ 9 hq.symm).trans rfl, (World.cell?_alloc_at _ _ _ 10 hq.symm).trans rfl⟩, owns_up Hown.out upI⟩ ?_
      rintro W ⟨uW, hY, hown⟩
      haveI := uW
      haveI := hY.lt
      have HY := Lib.hid hY
      obtain ⟨y0, y1, y2, y3, y4, y5, y6, y7, y8, y9, y10⟩ := hY
      have hcm : ∀ e : Ln, LnB e → ∀ V, Gives Tryz.prog 23 #[.agg #[.int .u8 e.pr, .int .u32 e.s, .int .u32 e.d, .int .u16 e.sp, .int .u16 e.dp], .agg #[.int .u8 y.pr, .int .u32 y.s, .int .u32 y.d, .int .u16 y.sp, .int .u16 y.dp]] V (.int .i64 (e.cmp y)) := fun e be V => compare_any e.pr e.s e.d e.sp e.dp y.pr y.s y.d y.sp y.dp V be.key.r0 be.key.r1 be.key.sp0 be.key.sp1 be.key.dp0 be.key.dp1 hyb.key.r0 hyb.key.r1 hyb.key.sp0 hyb.key.sp1 hyb.key.dp0 hyb.key.dp1
      have HO := Lib.hid hown
      obtain ⟨_, ⟨rfl, h0⟩ | ⟨g, cap3, cur, rfl, _, hg, hMc, _, hcs, _⟩⟩ := hown
      · obtain rfl := List.length_eq_zero_iff.1 h0
        have HI := Lib.hid (show insL y [] = [y] by rfl)
        go_wp2_with fail
        go_loopw [7] (fun i wx => i = .int .i64 0 ∧ wx = W) (fun i _ => 0)
        case atStart => exact ⟨rfl, rfl⟩
        case round =>
          obtain ⟨rfl, hw⟩ := hrel
          rw [hw]
          clear hw
          go_wp2_with fail
          (refine wp_region_ext (by kernel_rfl) (by kernel_rfl) ?_; (repeat (go_big_quiet_step (fail))); refine wpQuiet_nil ?_; rintro _ ⟨y9, rfl⟩)
          go_wp2_with fail
          (refine wp_region_ext (by kernel_rfl) (by kernel_rfl) ?_; (repeat (go_big_quiet_step (fail))); refine wpQuiet_nil ?_; rintro _ ⟨y10, rfl⟩)
          go_wp2_with fail
          refine wp_letter (fun V => UpI w V ∧ LnAt V q y) ⟨inferInstance, HY.out.up upI⟩ ?_
          clear y0 y1 y2 y3 y4 y5 y6 y7 y8 y9 y10
          rintro V ⟨uV, hY⟩
          haveI := uV
          haveI := hY.lt
          obtain ⟨y0, y1, y2, y3, y4, y5, y6, y7, y8, y9, y10⟩ := hY
          obtain ⟨i0, hi, hy0, hy1, hy2⟩ := info_parts infoLine
          have Hi := Lib.hid hi; have Hy0 := Lib.hid hy0; have Hy1 := Lib.hid hy1; have Hy2 := Lib.hid hy2
          clear hi hy0 hy1 hy2
          have hmix : Tryz.prog.follows .mixedOrders = true := by kernel_rfl
          refine wp_region_turn hmix ?_
          refine any_take (i := 1) (v := ?v501) rfl (by kernel_rfl) (by kernel_rfl) (by kernel_rfl) (Or.inl ⟨by kernel_rfl, ?hy501⟩) ?rest501
          case hy501 => (intro w; go_simp; (try with_reducible rfl))
          refine any_take (i := 2) (v := ?v502) rfl (by kernel_rfl) (by kernel_rfl) (by kernel_rfl) (Or.inl ⟨by kernel_rfl, ?hy502⟩) ?rest502
          case hy502 => (intro w; go_simp; (try with_reducible rfl))
          refine any_take (i := 3) (v := ?v503) rfl (by kernel_rfl) (by kernel_rfl) (by kernel_rfl) (Or.inl ⟨by kernel_rfl, ?hy503⟩) ?rest503
          case hy503 => (intro w; go_simp; (try with_reducible rfl))
          refine any_take (i := 8) (v := ?v504) rfl (by kernel_rfl) (by kernel_rfl) (by kernel_rfl) (Or.inl ⟨by kernel_rfl, ?hy504⟩) ?rest504
          case hy504 => (intro w; go_simp; (try with_reducible rfl))
          refine any_take (i := 9) (v := ?v505) rfl (by kernel_rfl) (by kernel_rfl) (by kernel_rfl) (Or.inl ⟨by kernel_rfl, ?hy505⟩) ?rest505
          case hy505 => (intro w; go_simp; (try with_reducible rfl))
          refine any_take (i := 10) (v := ?v506) rfl (by kernel_rfl) (by kernel_rfl) (by kernel_rfl) (Or.inl ⟨by kernel_rfl, ?hy506⟩) ?rest506
          case hy506 => (intro w; go_simp; (try with_reducible rfl))
          refine wpAny_ready (rs := [0, 5]) (by kernel_rfl) (by simp) ?_
          refine AllReady.cons rfl (fun K hK => ?_) ?_
          · go_simp
            refine hK _ _ ?_; clear hK K
            refine wpAny_ready (rs := [4, 5]) (by kernel_rfl) (by simp) ?_
            refine AllReady.cons rfl (fun K hK => ?_) ?_
            · skip
              refine step_append_none rfl _ _ 22 rfl V.heap.size 44 i0 11 Tryz.underlying22 Hi.out _ 0 [] rfl (fresh_own V _ (by simp) (by simp)) rfl ?_
              refine hK _ _ ?_; clear hK K
              refine wpAny_ready (rs := [5]) (by kernel_rfl) (by simp) ?_
              refine AllReady.cons rfl (fun K hK => ?_) ?_
              · go_simp
                refine hK _ _ ?_; clear hK K
                refine wpAny_ready (rs := [6]) (by kernel_rfl) (by simp) ?_
                refine AllReady.cons rfl (fun K hK => ?_) ?_
                · go_simp
                  refine hK _ _ ?_; clear hK K
                  refine wpAny_ready (rs := [7]) (by kernel_rfl) (by simp) ?_
                  refine AllReady.cons rfl (fun K hK => ?_) ?_
                  · skip
                    refine step_append_own rfl _ _ 22 rfl V.heap.size 44 i0 Ln.zero.val 11 40 Tryz.underlying22 Hi.out Hy0.out Hy1.out Hy2.out rfl (by decide) _ 0 [] rfl (owns_up (fresh_own V _ (by simp) (by simp)) (((Up.refl _).alloc _).drew)) ⟨_, 0, none⟩ 1 1 y.cells rfl rfl (ln_at2 (V.alloc (.cells #[] 44)) _ (by simp) y _) (fun u h => y.one u h) (by unfold maxLen; omega) (by omega) (upI : Up V _).size ?_
                    intro v2 w2 hown2 hgrow
                    have hu2 : Up V w2 := Up.grown (upI : Up V _) hgrow (fun k' h => by have h' := Option.some.inj h; subst h'; first | exact Nat.le_refl _ | simp)
                    obtain ⟨x2, rfl⟩ := hu2.mk
                    obtain ⟨g2, c2, rfl, hg2⟩ := owns_slice hown2
                    have Hown2 := Lib.hid hown2
                    clear hown2 hgrow hu2
                    refine hK _ _ ?_; clear hK K
                    refine wpAny_ready (rs := [11]) (by kernel_rfl) (by simp) ?_
                    refine AllReady.cons rfl (fun K hK => ?_) ?_
                    · skip
                      refine step_append_none rfl _ _ 22 rfl V.heap.size 44 i0 11 Tryz.underlying22 Hi.out _ _ _ rfl Hown2.out rfl ?_
                      refine hK _ _ ?_; clear hK K
                      refine any_take (i := 12) (v := ?v507) rfl (by kernel_rfl) (by kernel_rfl) (by kernel_rfl) (Or.inl ⟨by kernel_rfl, ?hy507⟩) ?rest507
                      case hy507 => (intro w; go_simp; (try with_reducible rfl))
                      refine wpAny_done (by kernel_rfl) ?_ _
                      refine ⟨rfl, ?_⟩
                      go_wp2_with fail
                      go_roundw
                      case rel => exact ⟨k + 1, [y], by omega, by go_num, Lib.hid (by rw [HMs.out, HI.out]), by simp, Lib.hid (owns_base (by simpa using Hown2.out) uV.up.size), upI⟩
                      case measure => simp [intOf]; omega
                    exact AllReady.nil
                  exact AllReady.nil
                exact AllReady.nil
              exact AllReady.nil
            refine AllReady.cons rfl (fun K hK => ?_) ?_
            · go_simp
              refine hK _ _ ?_; clear hK K
              refine wpAny_ready (rs := [4, 6]) (by kernel_rfl) (by simp) ?_
              refine AllReady.cons rfl (fun K hK => ?_) ?_
              · skip
                refine step_append_none rfl _ _ 22 rfl V.heap.size 44 i0 11 Tryz.underlying22 Hi.out _ 0 [] rfl (fresh_own V _ (by simp) (by simp)) rfl ?_
                refine hK _ _ ?_; clear hK K
                refine wpAny_ready (rs := [6]) (by kernel_rfl) (by simp) ?_
                refine AllReady.cons rfl (fun K hK => ?_) ?_
                · go_simp
                  refine hK _ _ ?_; clear hK K
                  refine wpAny_ready (rs := [7]) (by kernel_rfl) (by simp) ?_
                  refine AllReady.cons rfl (fun K hK => ?_) ?_
                  · skip
                    refine step_append_own rfl _ _ 22 rfl V.heap.size 44 i0 Ln.zero.val 11 40 Tryz.underlying22 Hi.out Hy0.out Hy1.out Hy2.out rfl (by decide) _ 0 [] rfl (owns_up (fresh_own V _ (by simp) (by simp)) (((Up.refl _).alloc _).drew)) ⟨_, 0, none⟩ 1 1 y.cells rfl rfl (ln_at2 (V.alloc (.cells #[] 44)) _ (by simp) y _) (fun u h => y.one u h) (by unfold maxLen; omega) (by omega) (upI : Up V _).size ?_
                    intro v2 w2 hown2 hgrow
                    have hu2 : Up V w2 := Up.grown (upI : Up V _) hgrow (fun k' h => by have h' := Option.some.inj h; subst h'; first | exact Nat.le_refl _ | simp)
                    obtain ⟨x2, rfl⟩ := hu2.mk
                    obtain ⟨g2, c2, rfl, hg2⟩ := owns_slice hown2
                    have Hown2 := Lib.hid hown2
                    clear hown2 hgrow hu2
                    refine hK _ _ ?_; clear hK K
                    refine wpAny_ready (rs := [11]) (by kernel_rfl) (by simp) ?_
                    refine AllReady.cons rfl (fun K hK => ?_) ?_
                    · skip
                      refine step_append_none rfl _ _ 22 rfl V.heap.size 44 i0 11 Tryz.underlying22 Hi.out _ _ _ rfl Hown2.out rfl ?_
                      refine hK _ _ ?_; clear hK K
                      refine any_take (i := 12) (v := ?v508) rfl (by kernel_rfl) (by kernel_rfl) (by kernel_rfl) (Or.inl ⟨by kernel_rfl, ?hy508⟩) ?rest508
                      case hy508 => (intro w; go_simp; (try with_reducible rfl))
                      refine wpAny_done (by kernel_rfl) ?_ _
                      refine ⟨rfl, ?_⟩
                      go_wp2_with fail
                      go_roundw
                      case rel => exact ⟨k + 1, [y], by omega, by go_num, Lib.hid (by rw [HMs.out, HI.out]), by simp, Lib.hid (owns_base (by simpa using Hown2.out) uV.up.size), upI⟩
                      case measure => simp [intOf]; omega
                    exact AllReady.nil
                  exact AllReady.nil
                exact AllReady.nil
              refine AllReady.cons rfl (fun K hK => ?_) ?_
              · go_simp
                refine hK _ _ ?_; clear hK K
                refine wpAny_ready (rs := [4]) (by kernel_rfl) (by simp) ?_
                refine AllReady.cons rfl (fun K hK => ?_) ?_
                · skip
                  refine step_append_none rfl _ _ 22 rfl V.heap.size 44 i0 11 Tryz.underlying22 Hi.out _ 0 [] rfl (owns_up (fresh_own V _ (by simp) (by simp)) (((Up.refl _).alloc _).drew)) rfl ?_
                  refine hK _ _ ?_; clear hK K
                  refine wpAny_ready (rs := [7]) (by kernel_rfl) (by simp) ?_
                  refine AllReady.cons rfl (fun K hK => ?_) ?_
                  · skip
                    refine step_append_own rfl _ _ 22 rfl V.heap.size 44 i0 Ln.zero.val 11 40 Tryz.underlying22 Hi.out Hy0.out Hy1.out Hy2.out rfl (by decide) _ 0 [] rfl (owns_up (fresh_own V _ (by simp) (by simp)) (((Up.refl _).alloc _).drew)) ⟨_, 0, none⟩ 1 1 y.cells rfl rfl (ln_at2 (V.alloc (.cells #[] 44)) _ (by simp) y _) (fun u h => y.one u h) (by unfold maxLen; omega) (by omega) (upI : Up V _).size ?_
                    intro v2 w2 hown2 hgrow
                    have hu2 : Up V w2 := Up.grown (upI : Up V _) hgrow (fun k' h => by have h' := Option.some.inj h; subst h'; first | exact Nat.le_refl _ | simp)
                    obtain ⟨x2, rfl⟩ := hu2.mk
                    obtain ⟨g2, c2, rfl, hg2⟩ := owns_slice hown2
                    have Hown2 := Lib.hid hown2
                    clear hown2 hgrow hu2
                    refine hK _ _ ?_; clear hK K
                    refine wpAny_ready (rs := [11]) (by kernel_rfl) (by simp) ?_
                    refine AllReady.cons rfl (fun K hK => ?_) ?_
                    · skip
                      refine step_append_none rfl _ _ 22 rfl V.heap.size 44 i0 11 Tryz.underlying22 Hi.out _ _ _ rfl Hown2.out rfl ?_
                      refine hK _ _ ?_; clear hK K
                      refine any_take (i := 12) (v := ?v509) rfl (by kernel_rfl) (by kernel_rfl) (by kernel_rfl) (Or.inl ⟨by kernel_rfl, ?hy509⟩) ?rest509
                      case hy509 => (intro w; go_simp; (try with_reducible rfl))
                      refine wpAny_done (by kernel_rfl) ?_ _
                      refine ⟨rfl, ?_⟩
                      go_wp2_with fail
                      go_roundw
                      case rel => exact ⟨k + 1, [y], by omega, by go_num, Lib.hid (by rw [HMs.out, HI.out]), by simp, Lib.hid (owns_base (by simpa using Hown2.out) uV.up.size), upI⟩
                      case measure => simp [intOf]; omega
                    exact AllReady.nil
                  exact AllReady.nil
                exact AllReady.nil
              exact AllReady.nil
            exact AllReady.nil
          refine AllReady.cons rfl (fun K hK => ?_) ?_
          · go_simp
            refine hK _ _ ?_; clear hK K
            refine wpAny_ready (rs := [0, 6]) (by kernel_rfl) (by simp) ?_
            refine AllReady.cons rfl (fun K hK => ?_) ?_
            · go_simp
              refine hK _ _ ?_; clear hK K
              refine wpAny_ready (rs := [4, 6]) (by kernel_rfl) (by simp) ?_
              refine AllReady.cons rfl (fun K hK => ?_) ?_
              · skip
                refine step_append_none rfl _ _ 22 rfl V.heap.size 44 i0 11 Tryz.underlying22 Hi.out _ 0 [] rfl (fresh_own V _ (by simp) (by simp)) rfl ?_
                refine hK _ _ ?_; clear hK K
                refine wpAny_ready (rs := [6]) (by kernel_rfl) (by simp) ?_
                refine AllReady.cons rfl (fun K hK => ?_) ?_
                · go_simp
                  refine hK _ _ ?_; clear hK K
                  refine wpAny_ready (rs := [7]) (by kernel_rfl) (by simp) ?_
                  refine AllReady.cons rfl (fun K hK => ?_) ?_
                  · skip
                    refine step_append_own rfl _ _ 22 rfl V.heap.size 44 i0 Ln.zero.val 11 40 Tryz.underlying22 Hi.out Hy0.out Hy1.out Hy2.out rfl (by decide) _ 0 [] rfl (owns_up (fresh_own V _ (by simp) (by simp)) (((Up.refl _).alloc _).drew)) ⟨_, 0, none⟩ 1 1 y.cells rfl rfl (ln_at2 (V.alloc (.cells #[] 44)) _ (by simp) y _) (fun u h => y.one u h) (by unfold maxLen; omega) (by omega) (upI : Up V _).size ?_
                    intro v2 w2 hown2 hgrow
                    have hu2 : Up V w2 := Up.grown (upI : Up V _) hgrow (fun k' h => by have h' := Option.some.inj h; subst h'; first | exact Nat.le_refl _ | simp)
                    obtain ⟨x2, rfl⟩ := hu2.mk
                    obtain ⟨g2, c2, rfl, hg2⟩ := owns_slice hown2
                    have Hown2 := Lib.hid hown2
                    clear hown2 hgrow hu2
                    refine hK _ _ ?_; clear hK K
                    refine wpAny_ready (rs := [11]) (by kernel_rfl) (by simp) ?_
                    refine AllReady.cons rfl (fun K hK => ?_) ?_
                    · skip
                      refine step_append_none rfl _ _ 22 rfl V.heap.size 44 i0 11 Tryz.underlying22 Hi.out _ _ _ rfl Hown2.out rfl ?_
                      refine hK _ _ ?_; clear hK K
                      refine any_take (i := 12) (v := ?v510) rfl (by kernel_rfl) (by kernel_rfl) (by kernel_rfl) (Or.inl ⟨by kernel_rfl, ?hy510⟩) ?rest510
                      case hy510 => (intro w; go_simp; (try with_reducible rfl))
                      refine wpAny_done (by kernel_rfl) ?_ _
                      refine ⟨rfl, ?_⟩
                      go_wp2_with fail
                      go_roundw
                      case rel => exact ⟨k + 1, [y], by omega, by go_num, Lib.hid (by rw [HMs.out, HI.out]), by simp, Lib.hid (owns_base (by simpa using Hown2.out) uV.up.size), upI⟩
                      case measure => simp [intOf]; omega
                    exact AllReady.nil
                  exact AllReady.nil
                exact AllReady.nil
              refine AllReady.cons rfl (fun K hK => ?_) ?_
              · go_simp
                refine hK _ _ ?_; clear hK K
                refine wpAny_ready (rs := [4]) (by kernel_rfl) (by simp) ?_
                refine AllReady.cons rfl (fun K hK => ?_) ?_
                · skip
                  refine step_append_none rfl _ _ 22 rfl V.heap.size 44 i0 11 Tryz.underlying22 Hi.out _ 0 [] rfl (owns_up (fresh_own V _ (by simp) (by simp)) (((Up.refl _).alloc _).drew)) rfl ?_
                  refine hK _ _ ?_; clear hK K
                  refine wpAny_ready (rs := [7]) (by kernel_rfl) (by simp) ?_
                  refine AllReady.cons rfl (fun K hK => ?_) ?_
                  · skip
                    refine step_append_own rfl _ _ 22 rfl V.heap.size 44 i0 Ln.zero.val 11 40 Tryz.underlying22 Hi.out Hy0.out Hy1.out Hy2.out rfl (by decide) _ 0 [] rfl (owns_up (fresh_own V _ (by simp) (by simp)) (((Up.refl _).alloc _).drew)) ⟨_, 0, none⟩ 1 1 y.cells rfl rfl (ln_at2 (V.alloc (.cells #[] 44)) _ (by simp) y _) (fun u h => y.one u h) (by unfold maxLen; omega) (by omega) (upI : Up V _).size ?_
                    intro v2 w2 hown2 hgrow
                    have hu2 : Up V w2 := Up.grown (upI : Up V _) hgrow (fun k' h => by have h' := Option.some.inj h; subst h'; first | exact Nat.le_refl _ | simp)
                    obtain ⟨x2, rfl⟩ := hu2.mk
                    obtain ⟨g2, c2, rfl, hg2⟩ := owns_slice hown2
                    have Hown2 := Lib.hid hown2
                    clear hown2 hgrow hu2
                    refine hK _ _ ?_; clear hK K
                    refine wpAny_ready (rs := [11]) (by kernel_rfl) (by simp) ?_
                    refine AllReady.cons rfl (fun K hK => ?_) ?_
                    · skip
                      refine step_append_none rfl _ _ 22 rfl V.heap.size 44 i0 11 Tryz.underlying22 Hi.out _ _ _ rfl Hown2.out rfl ?_
                      refine hK _ _ ?_; clear hK K
                      refine any_take (i := 12) (v := ?v511) rfl (by kernel_rfl) (by kernel_rfl) (by kernel_rfl) (Or.inl ⟨by kernel_rfl, ?hy511⟩) ?rest511
                      case hy511 => (intro w; go_simp; (try with_reducible rfl))
                      refine wpAny_done (by kernel_rfl) ?_ _
                      refine ⟨rfl, ?_⟩
                      go_wp2_with fail
                      go_roundw
                      case rel => exact ⟨k + 1, [y], by omega, by go_num, Lib.hid (by rw [HMs.out, HI.out]), by simp, Lib.hid (owns_base (by simpa using Hown2.out) uV.up.size), upI⟩
                      case measure => simp [intOf]; omega
                    exact AllReady.nil
                  exact AllReady.nil
                exact AllReady.nil
              exact AllReady.nil
            refine AllReady.cons rfl (fun K hK => ?_) ?_
            · go_simp
              refine hK _ _ ?_; clear hK K
              refine wpAny_ready (rs := [0]) (by kernel_rfl) (by simp) ?_
              refine AllReady.cons rfl (fun K hK => ?_) ?_
              · go_simp
                refine hK _ _ ?_; clear hK K
                refine wpAny_ready (rs := [4]) (by kernel_rfl) (by simp) ?_
                refine AllReady.cons rfl (fun K hK => ?_) ?_
                · skip
                  refine step_append_none rfl _ _ 22 rfl V.heap.size 44 i0 11 Tryz.underlying22 Hi.out _ 0 [] rfl (fresh_own (V.alloc (.cells y.cells.toArray 44)) _ (by simp) (by simp)) rfl ?_
                  refine hK _ _ ?_; clear hK K
                  refine wpAny_ready (rs := [7]) (by kernel_rfl) (by simp) ?_
                  refine AllReady.cons rfl (fun K hK => ?_) ?_
                  · skip
                    refine step_append_own rfl _ _ 22 rfl V.heap.size 44 i0 Ln.zero.val 11 40 Tryz.underlying22 Hi.out Hy0.out Hy1.out Hy2.out rfl (by decide) _ 0 [] rfl (fresh_own (V.alloc (.cells y.cells.toArray 44)) _ (by simp) (by simp)) ⟨_, 0, none⟩ 1 1 y.cells rfl rfl (fun t u h => Up.cell_some ((Up.refl _).alloc _) (ln_at V y 44 t u h)) (fun u h => y.one u h) (by unfold maxLen; omega) (by omega) (upI : Up V _).size ?_
                    intro v2 w2 hown2 hgrow
                    have hu2 : Up V w2 := Up.grown (upI : Up V _) hgrow (fun k' h => by have h' := Option.some.inj h; subst h'; first | exact Nat.le_refl _ | simp)
                    obtain ⟨x2, rfl⟩ := hu2.mk
                    obtain ⟨g2, c2, rfl, hg2⟩ := owns_slice hown2
                    have Hown2 := Lib.hid hown2
                    clear hown2 hgrow hu2
                    refine hK _ _ ?_; clear hK K
                    refine wpAny_ready (rs := [11]) (by kernel_rfl) (by simp) ?_
                    refine AllReady.cons rfl (fun K hK => ?_) ?_
                    · skip
                      refine step_append_none rfl _ _ 22 rfl V.heap.size 44 i0 11 Tryz.underlying22 Hi.out _ _ _ rfl Hown2.out rfl ?_
                      refine hK _ _ ?_; clear hK K
                      refine any_take (i := 12) (v := ?v512) rfl (by kernel_rfl) (by kernel_rfl) (by kernel_rfl) (Or.inl ⟨by kernel_rfl, ?hy512⟩) ?rest512
                      case hy512 => (intro w; go_simp; (try with_reducible rfl))
                      refine wpAny_done (by kernel_rfl) ?_ _
                      refine ⟨rfl, ?_⟩
                      go_wp2_with fail
                      go_roundw
                      case rel => exact ⟨k + 1, [y], by omega, by go_num, Lib.hid (by rw [HMs.out, HI.out]), by simp, Lib.hid (owns_base (by simpa using Hown2.out) uV.up.size), upI⟩
                      case measure => simp [intOf]; omega
                    exact AllReady.nil
                  exact AllReady.nil
                exact AllReady.nil
              exact AllReady.nil
            exact AllReady.nil
          exact AllReady.nil
      · have hgW : g < W.heap.size := (Array.getElem?_eq_some_iff.1 hg).1
        haveI : LtSize g W := ⟨hgW⟩
        have hrow : LnRow W (.slice (some ⟨g, 0, none⟩) M.length cap3) M := LnRow.of_owns HO.out
        obtain ⟨m, hm⟩ : ∃ m, M.length = m := ⟨_, rfl⟩
        rw [hm] at hMc hrow hMl ⊢
        have Hm := Lib.hid hm
        have HO2 : Hid (W.ownsRow w.heap.size 44 11 (.slice (some ⟨g, 0, none⟩) m cap3) m (M.flatMap Ln.cells)) := by rw [← hm]; exact HO
        clear hm hg hcs Hown hmd c0 c1 c2 c3 c4 c5 c6 c7 c8 hq hu
        go_wp2_with fail
        go_loopw [7] (fun i wx => ∃ j : Nat, j ≤ m ∧ j ≤ insAt y M ∧ i = .int .i64 (j : Int) ∧ ∃ x9 : Ext W, wx = x9.w) (fun i _ => m - (intOf i).toNat)
        case atStart => exact ⟨0, Nat.zero_le _, Nat.zero_le _, rfl, (Up.refl W).mk⟩
        case round =>
          obtain ⟨j, hj, hji, rfl, x9, rfl⟩ := hrel
          have j0 : (0 : Int) ≤ (j : Int) := by omega
          by_cases hjm : j < m
          · have hjm' : (j : Int) < (m : Int) := by omega
            obtain ⟨e, he⟩ : ∃ e, M[j]? = some e := ⟨_, List.getElem?_eq_getElem (by rw [Hm.out]; exact hjm)⟩
            have hcc := (hrow.cell j e he).2
            have e0 := hcc 0 _ rfl; have e1 := hcc 1 _ rfl; have e2 := hcc 2 _ rfl; have e3 := hcc 3 _ rfl; have e4 := hcc 4 _ rfl
            rw [Nat.zero_add] at e0 e1 e2 e3 e4
            rw [Nat.add_zero] at e0
            have hC := hcm e (HMb.out e (List.mem_of_getElem? he))
            have hst := insAt_step y e M j he hji
            clear hcc
            by_cases hlt2 : e.cmp y < 0
            · have hj2 := hst.1 hlt2
              clear hst hji
              go_wp2_with fail
              (refine wp_region_ext (by kernel_rfl) (by kernel_rfl) ?_; (repeat (go_big_quiet_step ((go_at_call 23; exact (hC _).ext)))); refine wpQuiet_nil ?_; rintro _ ⟨y9, rfl⟩)
              go_wp2_with fail
              go_roundw
              case rel => exact ⟨j + 1, by omega, hj2, by go_num, mkI⟩
              case measure => simp [intOf]; omega
            · have hj2 := hst.2 hlt2
              have hge : (0 : Int) ≤ e.cmp y := by omega
              clear hst hji
              go_wp2_with fail
              (refine wp_region_ext (by kernel_rfl) (by kernel_rfl) ?_; (repeat (go_big_quiet_step ((go_at_call 23; exact (hC _).ext)))); refine wpQuiet_nil ?_; rintro _ ⟨y9, rfl⟩)
              have hjne : ((j : Int) == (m : Int)) = false := by rw [beq_eq_false_iff_ne]; omega
              go_upto_region 9 with fail
              cases hkb : keyB e y
              · have hkc : (e.pr == y.pr && (e.s == y.s && (e.d == y.d && (e.sp == y.sp && e.dp == y.dp)))) = false := hkb
                go_wp2_with fail
                (refine wp_region_ext (by kernel_rfl) (by kernel_rfl) ?_; (repeat (go_big_quiet_step (fail))); refine wpQuiet_nil ?_; rintro _ ⟨y10, rfl⟩)
                go_wp2_with fail
                have HI := Lib.hid (show insL y M = M.take j ++ y :: M.drop j by unfold insL; rw [hj2, he]; simp [hkb])
                refine wp_letter (fun V => UpI w V ∧ LnAt V q y ∧ LtSize g V ∧ V.ownsRow w.heap.size 44 11 (.slice (some ⟨g, 0, none⟩) m cap3) m (M.flatMap Ln.cells)) ⟨inferInstance, HY.out.up upI, inferInstance, owns_up HO2.out upI⟩ ?_
                clear HO2 HO hrow y0 y1 y2 y3 y4 y5 y6 y7 y8 y9 y10
                rintro V ⟨uV, hY, hgV, hOV⟩
                haveI := uV
                haveI := hgV
                haveI := hY.lt
                obtain ⟨y0, y1, y2, y3, y4, y5, y6, y7, y8, y9, y10⟩ := hY
                have hcV : ∀ (t : Nat) u, (M.flatMap Ln.cells)[t]? = some u → V.cell? ⟨g, t, none⟩ = some u := fun t u h => own_cell hOV t u h
                have hl1 : ((M.take j).flatMap Ln.cells).length = j * 11 := by rw [flat_length (cells := Ln.cells) (fun z => z.cells_length), List.length_take, Hm.out]; congr 1; omega
                have hl2 : ((M.drop j).flatMap Ln.cells).length = (m - j) * 11 := by rw [flat_length (cells := Ln.cells) (fun z => z.cells_length), List.length_drop, Hm.out]; (try simp)
                have hc1' : ∀ (t : Nat) u, ((M.take j).flatMap Ln.cells)[t]? = some u → V.cell? (Addr.add ⟨g, 0, none⟩ t) = some u := fun t u h => by
                  rw [add_zero_off]
                  have ht : t < j * 11 := by rw [← hl1]; exact (List.getElem?_eq_some_iff.1 h).1
                  rw [flat_take, List.getElem?_take, if_pos ht] at h
                  exact hcV t u h
                have hlen3 : (M.take j ++ y :: M.drop j).length ≤ k + 1 := by rw [List.length_append, List.length_cons, List.length_take, List.length_drop, Hm.out]; omega
                have hfin : ∀ {X : World} {v3 : Value}, X.ownsRow V.heap.size 44 11 v3 (0 + j + 1 + (m - j)) ([] ++ (M.take j).flatMap Ln.cells ++ y.cells ++ (M.drop j).flatMap Ln.cells) → X.ownsRow w.heap.size 44 11 v3 (M.take j ++ y :: M.drop j).length ((M.take j ++ y :: M.drop j).flatMap Ln.cells) := fun h => by
                  have e1 : (M.take j ++ y :: M.drop j).length = 0 + j + 1 + (m - j) := by rw [List.length_append, List.length_cons, List.length_take, List.length_drop, Hm.out]; omega
                  rw [e1, List.flatMap_append, List.flatMap_cons, ← List.append_assoc]
                  exact owns_base h uV.up.size
                obtain ⟨i0, hi, hy0, hy1, hy2⟩ := info_parts infoLine
                have Hi := Lib.hid hi; have Hy0 := Lib.hid hy0; have Hy1 := Lib.hid hy1; have Hy2 := Lib.hid hy2
                clear hi hy0 hy1 hy2 hOV
                have hjc : j ≤ cap3 := by omega
                have hjm2 : j ≤ m := by omega
                have hmix : Tryz.prog.follows .mixedOrders = true := by kernel_rfl
                by_cases hca : cap3 = j
                · have hdr : (M.drop j).flatMap Ln.cells = [] := by rw [List.drop_of_length_le (by rw [Hm.out]; omega)]; rfl
                  have hc2' : ∀ (t : Nat) u, ((M.drop j).flatMap Ln.cells)[t]? = some u → V.cell? (Addr.add ⟨g, 0, none⟩ t) = some u := fun t u h => by rw [hdr] at h; cases h
                  refine wp_region_turn hmix ?_
                  refine any_take (i := 1) (v := ?v1) rfl (by kernel_rfl) (by kernel_rfl) (by kernel_rfl) (Or.inl ⟨by kernel_rfl, ?hy1⟩) ?rest1
                  case hy1 => (intro w; go_simp; (try with_reducible rfl))
                  refine any_take (i := 2) (v := ?v2) rfl (by kernel_rfl) (by kernel_rfl) (by kernel_rfl) (Or.inl ⟨by kernel_rfl, ?hy2⟩) ?rest2
                  case hy2 => (intro w; go_simp; (try with_reducible rfl))
                  refine any_take (i := 3) (v := ?v3) rfl (by kernel_rfl) (by kernel_rfl) (by kernel_rfl) (Or.inl ⟨by kernel_rfl, ?hy3⟩) ?rest3
                  case hy3 => (intro w; go_simp; (try with_reducible rfl))
                  refine any_take (i := 8) (v := ?v4) rfl (by kernel_rfl) (by kernel_rfl) (by kernel_rfl) (Or.inl ⟨by kernel_rfl, ?hy4⟩) ?rest4
                  case hy4 => (intro w; go_simp; (try with_reducible rfl))
                  refine any_take (i := 9) (v := ?v5) rfl (by kernel_rfl) (by kernel_rfl) (by kernel_rfl) (Or.inl ⟨by kernel_rfl, ?hy5⟩) ?rest5
                  case hy5 => (intro w; go_simp; (try with_reducible rfl))
                  refine any_take (i := 10) (v := ?v6) rfl (by kernel_rfl) (by kernel_rfl) (by kernel_rfl) (Or.inl ⟨by kernel_rfl, ?hy6⟩) ?rest6
                  case hy6 => (intro w; go_simp; (try with_reducible rfl))
                  refine wpAny_ready (rs := [0, 5]) (by kernel_rfl) (by simp) ?_
                  refine AllReady.cons rfl (fun K hK => ?_) ?_
                  · go_simp
                    refine hK _ _ ?_; clear hK K
                    refine wpAny_ready (rs := [4, 5]) (by kernel_rfl) (by simp) ?_
                    refine AllReady.cons rfl (fun K hK => ?_) ?_
                    · skip
                      refine step_append_own rfl _ _ 22 rfl V.heap.size 44 i0 Ln.zero.val 11 40 Tryz.underlying22 Hi.out Hy0.out Hy1.out Hy2.out rfl (by decide) _ 0 [] rfl (fresh_own V _ (by simp) (by simp)) ⟨g, 0, none⟩ j _ ((M.take j).flatMap Ln.cells) rfl hl1 (fun t u h => (upI : Up V _).cell_some (hc1' t u h)) (flat_one _) (by unfold maxLen; omega) (by omega) (upI : Up V _).size ?_
                      intro v1 w1 hown1 hgrow
                      have hu1 : Up V w1 := Up.grown (upI : Up V _) hgrow (fun k' h => by have h' := Option.some.inj h; subst h'; first | exact Nat.le_refl _ | simp)
                      obtain ⟨x1, rfl⟩ := hu1.mk
                      have Hown1 := Lib.hid hown1
                      clear hown1 hgrow hu1
                      refine hK _ _ ?_; clear hK K
                      refine wpAny_ready (rs := [5]) (by kernel_rfl) (by simp) ?_
                      refine AllReady.cons rfl (fun K hK => ?_) ?_
                      · go_simp
                        refine hK _ _ ?_; clear hK K
                        refine wpAny_ready (rs := [6]) (by kernel_rfl) (by simp) ?_
                        refine AllReady.cons rfl (fun K hK => ?_) ?_
                        · go_simp
                          refine hK _ _ ?_; clear hK K
                          refine wpAny_ready (rs := [7]) (by kernel_rfl) (by simp) ?_
                          refine AllReady.cons rfl (fun K hK => ?_) ?_
                          · skip
                            refine step_append_own rfl _ _ 22 rfl V.heap.size 44 i0 Ln.zero.val 11 40 Tryz.underlying22 Hi.out Hy0.out Hy1.out Hy2.out rfl (by decide) v1 _ _ rfl (owns_up Hown1.out (upI : Up x1.w _)) ⟨_, 0, none⟩ 1 1 y.cells rfl rfl (ln_at x1.w y _) (fun u h => y.one u h) (by unfold maxLen; omega) (by omega) (upI : Up V _).size ?_
                            intro v2 w2 hown2 hgrow
                            have hu2 : Up V w2 := Up.grown (upI : Up V _) hgrow (fun k' h => owns_row Hown1.out k' h)
                            obtain ⟨x2, rfl⟩ := hu2.mk
                            have Hown2 := Lib.hid hown2
                            clear hown2 hgrow hu2
                            refine hK _ _ ?_; clear hK K
                            refine wpAny_ready (rs := [11]) (by kernel_rfl) (by simp) ?_
                            refine AllReady.cons rfl (fun K hK => ?_) ?_
                            · skip
                              refine step_append_own rfl _ _ 22 rfl V.heap.size 44 i0 Ln.zero.val 11 40 Tryz.underlying22 Hi.out Hy0.out Hy1.out Hy2.out rfl (by decide) v2 _ _ rfl Hown2.out ⟨g, 0, none⟩ (m - j) _ ((M.drop j).flatMap Ln.cells) rfl hl2 (fun t u h => (upI : Up V _).cell_some (hc2' t u h)) (flat_one _) (by unfold maxLen; omega) (by omega) (upI : Up V _).size ?_
                              intro v3 w3 hown3 hgrow
                              have hu3 : Up V w3 := Up.grown (upI : Up V _) hgrow (fun k' h => owns_row Hown2.out k' h)
                              obtain ⟨x3, rfl⟩ := hu3.mk
                              have Hown3 := Lib.hid hown3
                              clear hown3 hgrow hu3
                              refine hK _ _ ?_; clear hK K
                              refine any_take (i := 12) (v := ?v7) rfl (by kernel_rfl) (by kernel_rfl) (by kernel_rfl) (Or.inl ⟨by kernel_rfl, ?hy7⟩) ?rest7
                              case hy7 => (intro w; go_simp; (try with_reducible rfl))
                              refine wpAny_done (by kernel_rfl) ?_ _
                              refine ⟨rfl, ?_⟩
                              go_wp2_with fail
                              go_roundw
                              case rel => exact ⟨k + 1, M.take j ++ y :: M.drop j, by omega, by go_num, Lib.hid (by rw [HMs.out, HI.out]), hlen3, Lib.hid (hfin Hown3.out), upI⟩
                              case measure => simp [intOf]; omega
                            exact AllReady.nil
                          exact AllReady.nil
                        exact AllReady.nil
                      exact AllReady.nil
                    refine AllReady.cons rfl (fun K hK => ?_) ?_
                    · go_simp
                      refine hK _ _ ?_; clear hK K
                      refine wpAny_ready (rs := [4, 6]) (by kernel_rfl) (by simp) ?_
                      refine AllReady.cons rfl (fun K hK => ?_) ?_
                      · skip
                        refine step_append_own rfl _ _ 22 rfl V.heap.size 44 i0 Ln.zero.val 11 40 Tryz.underlying22 Hi.out Hy0.out Hy1.out Hy2.out rfl (by decide) _ 0 [] rfl (fresh_own V _ (by simp) (by simp)) ⟨g, 0, none⟩ j _ ((M.take j).flatMap Ln.cells) rfl hl1 (fun t u h => (upI : Up V _).cell_some (hc1' t u h)) (flat_one _) (by unfold maxLen; omega) (by omega) (upI : Up V _).size ?_
                        intro v1 w1 hown1 hgrow
                        have hu1 : Up V w1 := Up.grown (upI : Up V _) hgrow (fun k' h => by have h' := Option.some.inj h; subst h'; first | exact Nat.le_refl _ | simp)
                        obtain ⟨x1, rfl⟩ := hu1.mk
                        have Hown1 := Lib.hid hown1
                        clear hown1 hgrow hu1
                        refine hK _ _ ?_; clear hK K
                        refine wpAny_ready (rs := [6]) (by kernel_rfl) (by simp) ?_
                        refine AllReady.cons rfl (fun K hK => ?_) ?_
                        · go_simp
                          refine hK _ _ ?_; clear hK K
                          refine wpAny_ready (rs := [7]) (by kernel_rfl) (by simp) ?_
                          refine AllReady.cons rfl (fun K hK => ?_) ?_
                          · skip
                            refine step_append_own rfl _ _ 22 rfl V.heap.size 44 i0 Ln.zero.val 11 40 Tryz.underlying22 Hi.out Hy0.out Hy1.out Hy2.out rfl (by decide) v1 _ _ rfl (owns_up Hown1.out (upI : Up x1.w _)) ⟨_, 0, none⟩ 1 1 y.cells rfl rfl (ln_at x1.w y _) (fun u h => y.one u h) (by unfold maxLen; omega) (by omega) (upI : Up V _).size ?_
                            intro v2 w2 hown2 hgrow
                            have hu2 : Up V w2 := Up.grown (upI : Up V _) hgrow (fun k' h => owns_row Hown1.out k' h)
                            obtain ⟨x2, rfl⟩ := hu2.mk
                            have Hown2 := Lib.hid hown2
                            clear hown2 hgrow hu2
                            refine hK _ _ ?_; clear hK K
                            refine wpAny_ready (rs := [11]) (by kernel_rfl) (by simp) ?_
                            refine AllReady.cons rfl (fun K hK => ?_) ?_
                            · skip
                              refine step_append_own rfl _ _ 22 rfl V.heap.size 44 i0 Ln.zero.val 11 40 Tryz.underlying22 Hi.out Hy0.out Hy1.out Hy2.out rfl (by decide) v2 _ _ rfl Hown2.out ⟨g, 0, none⟩ (m - j) _ ((M.drop j).flatMap Ln.cells) rfl hl2 (fun t u h => (upI : Up V _).cell_some (hc2' t u h)) (flat_one _) (by unfold maxLen; omega) (by omega) (upI : Up V _).size ?_
                              intro v3 w3 hown3 hgrow
                              have hu3 : Up V w3 := Up.grown (upI : Up V _) hgrow (fun k' h => owns_row Hown2.out k' h)
                              obtain ⟨x3, rfl⟩ := hu3.mk
                              have Hown3 := Lib.hid hown3
                              clear hown3 hgrow hu3
                              refine hK _ _ ?_; clear hK K
                              refine any_take (i := 12) (v := ?v8) rfl (by kernel_rfl) (by kernel_rfl) (by kernel_rfl) (Or.inl ⟨by kernel_rfl, ?hy8⟩) ?rest8
                              case hy8 => (intro w; go_simp; (try with_reducible rfl))
                              refine wpAny_done (by kernel_rfl) ?_ _
                              refine ⟨rfl, ?_⟩
                              go_wp2_with fail
                              go_roundw
                              case rel => exact ⟨k + 1, M.take j ++ y :: M.drop j, by omega, by go_num, Lib.hid (by rw [HMs.out, HI.out]), hlen3, Lib.hid (hfin Hown3.out), upI⟩
                              case measure => simp [intOf]; omega
                            exact AllReady.nil
                          exact AllReady.nil
                        exact AllReady.nil
                      refine AllReady.cons rfl (fun K hK => ?_) ?_
                      · go_simp
                        refine hK _ _ ?_; clear hK K
                        refine wpAny_ready (rs := [4]) (by kernel_rfl) (by simp) ?_
                        refine AllReady.cons rfl (fun K hK => ?_) ?_
                        · skip
                          refine step_append_own rfl _ _ 22 rfl V.heap.size 44 i0 Ln.zero.val 11 40 Tryz.underlying22 Hi.out Hy0.out Hy1.out Hy2.out rfl (by decide) _ 0 [] rfl (owns_up (fresh_own V _ (by simp) (by simp)) (((Up.refl _).alloc _).drew)) ⟨g, 0, none⟩ j _ ((M.take j).flatMap Ln.cells) rfl hl1 (fun t u h => (upI : Up V _).cell_some (hc1' t u h)) (flat_one _) (by unfold maxLen; omega) (by omega) (upI : Up V _).size ?_
                          intro v1 w1 hown1 hgrow
                          have hkY : w1.heap[V.heap.size + 1]? = some (.cells y.cells.toArray 44 (0, 0)) := (hgrow.block (V.heap.size + 1) (by simp) (fun h => by have h' := Option.some.inj h; (try simp at h'); (try omega))).trans (alloc_new (by simp))
                          have hu1 : Up V w1 := Up.grown (upI : Up V _) hgrow (fun k' h => by have h' := Option.some.inj h; subst h'; first | exact Nat.le_refl _ | simp)
                          obtain ⟨x1, rfl⟩ := hu1.mk
                          have Hown1 := Lib.hid hown1
                          clear hown1 hgrow hu1
                          refine hK _ _ ?_; clear hK K
                          refine wpAny_ready (rs := [7]) (by kernel_rfl) (by simp) ?_
                          refine AllReady.cons rfl (fun K hK => ?_) ?_
                          · skip
                            refine step_append_own rfl _ _ 22 rfl V.heap.size 44 i0 Ln.zero.val 11 40 Tryz.underlying22 Hi.out Hy0.out Hy1.out Hy2.out rfl (by decide) v1 _ _ rfl Hown1.out ⟨_, 0, none⟩ 1 1 y.cells rfl rfl (row_ln hkY) (fun u h => y.one u h) (by unfold maxLen; omega) (by omega) (upI : Up V _).size ?_
                            intro v2 w2 hown2 hgrow
                            have hu2 : Up V w2 := Up.grown (upI : Up V _) hgrow (fun k' h => owns_row Hown1.out k' h)
                            obtain ⟨x2, rfl⟩ := hu2.mk
                            have Hown2 := Lib.hid hown2
                            clear hown2 hgrow hu2
                            refine hK _ _ ?_; clear hK K
                            refine wpAny_ready (rs := [11]) (by kernel_rfl) (by simp) ?_
                            refine AllReady.cons rfl (fun K hK => ?_) ?_
                            · skip
                              refine step_append_own rfl _ _ 22 rfl V.heap.size 44 i0 Ln.zero.val 11 40 Tryz.underlying22 Hi.out Hy0.out Hy1.out Hy2.out rfl (by decide) v2 _ _ rfl Hown2.out ⟨g, 0, none⟩ (m - j) _ ((M.drop j).flatMap Ln.cells) rfl hl2 (fun t u h => (upI : Up V _).cell_some (hc2' t u h)) (flat_one _) (by unfold maxLen; omega) (by omega) (upI : Up V _).size ?_
                              intro v3 w3 hown3 hgrow
                              have hu3 : Up V w3 := Up.grown (upI : Up V _) hgrow (fun k' h => owns_row Hown2.out k' h)
                              obtain ⟨x3, rfl⟩ := hu3.mk
                              have Hown3 := Lib.hid hown3
                              clear hown3 hgrow hu3
                              refine hK _ _ ?_; clear hK K
                              refine any_take (i := 12) (v := ?v9) rfl (by kernel_rfl) (by kernel_rfl) (by kernel_rfl) (Or.inl ⟨by kernel_rfl, ?hy9⟩) ?rest9
                              case hy9 => (intro w; go_simp; (try with_reducible rfl))
                              refine wpAny_done (by kernel_rfl) ?_ _
                              refine ⟨rfl, ?_⟩
                              go_wp2_with fail
                              go_roundw
                              case rel => exact ⟨k + 1, M.take j ++ y :: M.drop j, by omega, by go_num, Lib.hid (by rw [HMs.out, HI.out]), hlen3, Lib.hid (hfin Hown3.out), upI⟩
                              case measure => simp [intOf]; omega
                            exact AllReady.nil
                          exact AllReady.nil
                        exact AllReady.nil
                      exact AllReady.nil
                    exact AllReady.nil
                  refine AllReady.cons rfl (fun K hK => ?_) ?_
                  · go_simp
                    refine hK _ _ ?_; clear hK K
                    refine wpAny_ready (rs := [0, 6]) (by kernel_rfl) (by simp) ?_
                    refine AllReady.cons rfl (fun K hK => ?_) ?_
                    · go_simp
                      refine hK _ _ ?_; clear hK K
                      refine wpAny_ready (rs := [4, 6]) (by kernel_rfl) (by simp) ?_
                      refine AllReady.cons rfl (fun K hK => ?_) ?_
                      · skip
                        refine step_append_own rfl _ _ 22 rfl V.heap.size 44 i0 Ln.zero.val 11 40 Tryz.underlying22 Hi.out Hy0.out Hy1.out Hy2.out rfl (by decide) _ 0 [] rfl (fresh_own V _ (by simp) (by simp)) ⟨g, 0, none⟩ j _ ((M.take j).flatMap Ln.cells) rfl hl1 (fun t u h => (upI : Up V _).cell_some (hc1' t u h)) (flat_one _) (by unfold maxLen; omega) (by omega) (upI : Up V _).size ?_
                        intro v1 w1 hown1 hgrow
                        have hu1 : Up V w1 := Up.grown (upI : Up V _) hgrow (fun k' h => by have h' := Option.some.inj h; subst h'; first | exact Nat.le_refl _ | simp)
                        obtain ⟨x1, rfl⟩ := hu1.mk
                        have Hown1 := Lib.hid hown1
                        clear hown1 hgrow hu1
                        refine hK _ _ ?_; clear hK K
                        refine wpAny_ready (rs := [6]) (by kernel_rfl) (by simp) ?_
                        refine AllReady.cons rfl (fun K hK => ?_) ?_
                        · go_simp
                          refine hK _ _ ?_; clear hK K
                          refine wpAny_ready (rs := [7]) (by kernel_rfl) (by simp) ?_
                          refine AllReady.cons rfl (fun K hK => ?_) ?_
                          · skip
                            refine step_append_own rfl _ _ 22 rfl V.heap.size 44 i0 Ln.zero.val 11 40 Tryz.underlying22 Hi.out Hy0.out Hy1.out Hy2.out rfl (by decide) v1 _ _ rfl (owns_up Hown1.out (upI : Up x1.w _)) ⟨_, 0, none⟩ 1 1 y.cells rfl rfl (ln_at x1.w y _) (fun u h => y.one u h) (by unfold maxLen; omega) (by omega) (upI : Up V _).size ?_
                            intro v2 w2 hown2 hgrow
                            have hu2 : Up V w2 := Up.grown (upI : Up V _) hgrow (fun k' h => owns_row Hown1.out k' h)
                            obtain ⟨x2, rfl⟩ := hu2.mk
                            have Hown2 := Lib.hid hown2
                            clear hown2 hgrow hu2
                            refine hK _ _ ?_; clear hK K
                            refine wpAny_ready (rs := [11]) (by kernel_rfl) (by simp) ?_
                            refine AllReady.cons rfl (fun K hK => ?_) ?_
                            · skip
                              refine step_append_own rfl _ _ 22 rfl V.heap.size 44 i0 Ln.zero.val 11 40 Tryz.underlying22 Hi.out Hy0.out Hy1.out Hy2.out rfl (by decide) v2 _ _ rfl Hown2.out ⟨g, 0, none⟩ (m - j) _ ((M.drop j).flatMap Ln.cells) rfl hl2 (fun t u h => (upI : Up V _).cell_some (hc2' t u h)) (flat_one _) (by unfold maxLen; omega) (by omega) (upI : Up V _).size ?_
                              intro v3 w3 hown3 hgrow
                              have hu3 : Up V w3 := Up.grown (upI : Up V _) hgrow (fun k' h => owns_row Hown2.out k' h)
                              obtain ⟨x3, rfl⟩ := hu3.mk
                              have Hown3 := Lib.hid hown3
                              clear hown3 hgrow hu3
                              refine hK _ _ ?_; clear hK K
                              refine any_take (i := 12) (v := ?v10) rfl (by kernel_rfl) (by kernel_rfl) (by kernel_rfl) (Or.inl ⟨by kernel_rfl, ?hy10⟩) ?rest10
                              case hy10 => (intro w; go_simp; (try with_reducible rfl))
                              refine wpAny_done (by kernel_rfl) ?_ _
                              refine ⟨rfl, ?_⟩
                              go_wp2_with fail
                              go_roundw
                              case rel => exact ⟨k + 1, M.take j ++ y :: M.drop j, by omega, by go_num, Lib.hid (by rw [HMs.out, HI.out]), hlen3, Lib.hid (hfin Hown3.out), upI⟩
                              case measure => simp [intOf]; omega
                            exact AllReady.nil
                          exact AllReady.nil
                        exact AllReady.nil
                      refine AllReady.cons rfl (fun K hK => ?_) ?_
                      · go_simp
                        refine hK _ _ ?_; clear hK K
                        refine wpAny_ready (rs := [4]) (by kernel_rfl) (by simp) ?_
                        refine AllReady.cons rfl (fun K hK => ?_) ?_
                        · skip
                          refine step_append_own rfl _ _ 22 rfl V.heap.size 44 i0 Ln.zero.val 11 40 Tryz.underlying22 Hi.out Hy0.out Hy1.out Hy2.out rfl (by decide) _ 0 [] rfl (owns_up (fresh_own V _ (by simp) (by simp)) (((Up.refl _).alloc _).drew)) ⟨g, 0, none⟩ j _ ((M.take j).flatMap Ln.cells) rfl hl1 (fun t u h => (upI : Up V _).cell_some (hc1' t u h)) (flat_one _) (by unfold maxLen; omega) (by omega) (upI : Up V _).size ?_
                          intro v1 w1 hown1 hgrow
                          have hkY : w1.heap[V.heap.size + 1]? = some (.cells y.cells.toArray 44 (0, 0)) := (hgrow.block (V.heap.size + 1) (by simp) (fun h => by have h' := Option.some.inj h; (try simp at h'); (try omega))).trans (alloc_new (by simp))
                          have hu1 : Up V w1 := Up.grown (upI : Up V _) hgrow (fun k' h => by have h' := Option.some.inj h; subst h'; first | exact Nat.le_refl _ | simp)
                          obtain ⟨x1, rfl⟩ := hu1.mk
                          have Hown1 := Lib.hid hown1
                          clear hown1 hgrow hu1
                          refine hK _ _ ?_; clear hK K
                          refine wpAny_ready (rs := [7]) (by kernel_rfl) (by simp) ?_
                          refine AllReady.cons rfl (fun K hK => ?_) ?_
                          · skip
                            refine step_append_own rfl _ _ 22 rfl V.heap.size 44 i0 Ln.zero.val 11 40 Tryz.underlying22 Hi.out Hy0.out Hy1.out Hy2.out rfl (by decide) v1 _ _ rfl Hown1.out ⟨_, 0, none⟩ 1 1 y.cells rfl rfl (row_ln hkY) (fun u h => y.one u h) (by unfold maxLen; omega) (by omega) (upI : Up V _).size ?_
                            intro v2 w2 hown2 hgrow
                            have hu2 : Up V w2 := Up.grown (upI : Up V _) hgrow (fun k' h => owns_row Hown1.out k' h)
                            obtain ⟨x2, rfl⟩ := hu2.mk
                            have Hown2 := Lib.hid hown2
                            clear hown2 hgrow hu2
                            refine hK _ _ ?_; clear hK K
                            refine wpAny_ready (rs := [11]) (by kernel_rfl) (by simp) ?_
                            refine AllReady.cons rfl (fun K hK => ?_) ?_
                            · skip
                              refine step_append_own rfl _ _ 22 rfl V.heap.size 44 i0 Ln.zero.val 11 40 Tryz.underlying22 Hi.out Hy0.out Hy1.out Hy2.out rfl (by decide) v2 _ _ rfl Hown2.out ⟨g, 0, none⟩ (m - j) _ ((M.drop j).flatMap Ln.cells) rfl hl2 (fun t u h => (upI : Up V _).cell_some (hc2' t u h)) (flat_one _) (by unfold maxLen; omega) (by omega) (upI : Up V _).size ?_
                              intro v3 w3 hown3 hgrow
                              have hu3 : Up V w3 := Up.grown (upI : Up V _) hgrow (fun k' h => owns_row Hown2.out k' h)
                              obtain ⟨x3, rfl⟩ := hu3.mk
                              have Hown3 := Lib.hid hown3
                              clear hown3 hgrow hu3
                              refine hK _ _ ?_; clear hK K
                              refine any_take (i := 12) (v := ?v11) rfl (by kernel_rfl) (by kernel_rfl) (by kernel_rfl) (Or.inl ⟨by kernel_rfl, ?hy11⟩) ?rest11
                              case hy11 => (intro w; go_simp; (try with_reducible rfl))
                              refine wpAny_done (by kernel_rfl) ?_ _
                              refine ⟨rfl, ?_⟩
                              go_wp2_with fail
                              go_roundw
                              case rel => exact ⟨k + 1, M.take j ++ y :: M.drop j, by omega, by go_num, Lib.hid (by rw [HMs.out, HI.out]), hlen3, Lib.hid (hfin Hown3.out), upI⟩
                              case measure => simp [intOf]; omega
                            exact AllReady.nil
                          exact AllReady.nil
                        exact AllReady.nil
                      exact AllReady.nil
                    refine AllReady.cons rfl (fun K hK => ?_) ?_
                    · go_simp
                      refine hK _ _ ?_; clear hK K
                      refine wpAny_ready (rs := [0]) (by kernel_rfl) (by simp) ?_
                      refine AllReady.cons rfl (fun K hK => ?_) ?_
                      · go_simp
                        refine hK _ _ ?_; clear hK K
                        refine wpAny_ready (rs := [4]) (by kernel_rfl) (by simp) ?_
                        refine AllReady.cons rfl (fun K hK => ?_) ?_
                        · skip
                          refine step_append_own rfl _ _ 22 rfl V.heap.size 44 i0 Ln.zero.val 11 40 Tryz.underlying22 Hi.out Hy0.out Hy1.out Hy2.out rfl (by decide) _ 0 [] rfl (fresh_own (V.alloc (.cells y.cells.toArray 44)) _ (by simp) (by simp)) ⟨g, 0, none⟩ j _ ((M.take j).flatMap Ln.cells) rfl hl1 (fun t u h => (upI : Up V _).cell_some (hc1' t u h)) (flat_one _) (by unfold maxLen; omega) (by omega) (upI : Up V _).size ?_
                          intro v1 w1 hown1 hgrow
                          have hkY : w1.heap[V.heap.size]? = some (.cells y.cells.toArray 44 (0, 0)) := (hgrow.block V.heap.size (by simp; omega) (fun h => by have h' := Option.some.inj h; (try simp at h'); (try omega))).trans ((Below.heap_alloc _ _ _ (by simp)).trans (alloc_new (by simp)))
                          have hu1 : Up V w1 := Up.grown (upI : Up V _) hgrow (fun k' h => by have h' := Option.some.inj h; subst h'; first | exact Nat.le_refl _ | simp)
                          obtain ⟨x1, rfl⟩ := hu1.mk
                          have Hown1 := Lib.hid hown1
                          clear hown1 hgrow hu1
                          refine hK _ _ ?_; clear hK K
                          refine wpAny_ready (rs := [7]) (by kernel_rfl) (by simp) ?_
                          refine AllReady.cons rfl (fun K hK => ?_) ?_
                          · skip
                            refine step_append_own rfl _ _ 22 rfl V.heap.size 44 i0 Ln.zero.val 11 40 Tryz.underlying22 Hi.out Hy0.out Hy1.out Hy2.out rfl (by decide) v1 _ _ rfl Hown1.out ⟨_, 0, none⟩ 1 1 y.cells rfl rfl (row_ln hkY) (fun u h => y.one u h) (by unfold maxLen; omega) (by omega) (upI : Up V _).size ?_
                            intro v2 w2 hown2 hgrow
                            have hu2 : Up V w2 := Up.grown (upI : Up V _) hgrow (fun k' h => owns_row Hown1.out k' h)
                            obtain ⟨x2, rfl⟩ := hu2.mk
                            have Hown2 := Lib.hid hown2
                            clear hown2 hgrow hu2
                            refine hK _ _ ?_; clear hK K
                            refine wpAny_ready (rs := [11]) (by kernel_rfl) (by simp) ?_
                            refine AllReady.cons rfl (fun K hK => ?_) ?_
                            · skip
                              refine step_append_own rfl _ _ 22 rfl V.heap.size 44 i0 Ln.zero.val 11 40 Tryz.underlying22 Hi.out Hy0.out Hy1.out Hy2.out rfl (by decide) v2 _ _ rfl Hown2.out ⟨g, 0, none⟩ (m - j) _ ((M.drop j).flatMap Ln.cells) rfl hl2 (fun t u h => (upI : Up V _).cell_some (hc2' t u h)) (flat_one _) (by unfold maxLen; omega) (by omega) (upI : Up V _).size ?_
                              intro v3 w3 hown3 hgrow
                              have hu3 : Up V w3 := Up.grown (upI : Up V _) hgrow (fun k' h => owns_row Hown2.out k' h)
                              obtain ⟨x3, rfl⟩ := hu3.mk
                              have Hown3 := Lib.hid hown3
                              clear hown3 hgrow hu3
                              refine hK _ _ ?_; clear hK K
                              refine any_take (i := 12) (v := ?v12) rfl (by kernel_rfl) (by kernel_rfl) (by kernel_rfl) (Or.inl ⟨by kernel_rfl, ?hy12⟩) ?rest12
                              case hy12 => (intro w; go_simp; (try with_reducible rfl))
                              refine wpAny_done (by kernel_rfl) ?_ _
                              refine ⟨rfl, ?_⟩
                              go_wp2_with fail
                              go_roundw
                              case rel => exact ⟨k + 1, M.take j ++ y :: M.drop j, by omega, by go_num, Lib.hid (by rw [HMs.out, HI.out]), hlen3, Lib.hid (hfin Hown3.out), upI⟩
                              case measure => simp [intOf]; omega
                            exact AllReady.nil
                          exact AllReady.nil
                        exact AllReady.nil
                      exact AllReady.nil
                    exact AllReady.nil
                  exact AllReady.nil
                · have hc2' : ∀ (t : Nat) u, ((M.drop j).flatMap Ln.cells)[t]? = some u → V.cell? (Addr.add ⟨g, j * 11, none⟩ t) = some u := fun t u h => by
                    rw [add_off]
                    refine hcV (j * 11 + t) u ?_
                    have h3 : M.flatMap Ln.cells = (M.take j).flatMap Ln.cells ++ (M.drop j).flatMap Ln.cells := by rw [← List.flatMap_append, List.take_append_drop]
                    rw [h3, List.getElem?_append_right (by rw [hl1]; omega), hl1, show j * 11 + t - j * 11 = t by omega]
                    exact h
                  refine wp_region_turn hmix ?_
                  refine any_take (i := 1) (v := ?v13) rfl (by kernel_rfl) (by kernel_rfl) (by kernel_rfl) (Or.inl ⟨by kernel_rfl, ?hy13⟩) ?rest13
                  case hy13 => (intro w; go_simp; (try with_reducible rfl))
                  refine any_take (i := 2) (v := ?v14) rfl (by kernel_rfl) (by kernel_rfl) (by kernel_rfl) (Or.inl ⟨by kernel_rfl, ?hy14⟩) ?rest14
                  case hy14 => (intro w; go_simp; (try with_reducible rfl))
                  refine any_take (i := 3) (v := ?v15) rfl (by kernel_rfl) (by kernel_rfl) (by kernel_rfl) (Or.inl ⟨by kernel_rfl, ?hy15⟩) ?rest15
                  case hy15 => (intro w; go_simp; (try with_reducible rfl))
                  refine any_take (i := 8) (v := ?v16) rfl (by kernel_rfl) (by kernel_rfl) (by kernel_rfl) (Or.inl ⟨by kernel_rfl, ?hy16⟩) ?rest16
                  case hy16 => (intro w; go_simp; (try with_reducible rfl))
                  refine any_take (i := 9) (v := ?v17) rfl (by kernel_rfl) (by kernel_rfl) (by kernel_rfl) (Or.inl ⟨by kernel_rfl, ?hy17⟩) ?rest17
                  case hy17 => (intro w; go_simp; (try with_reducible rfl))
                  refine any_take (i := 10) (v := ?v18) rfl (by kernel_rfl) (by kernel_rfl) (by kernel_rfl) (Or.inl ⟨by kernel_rfl, ?hy18⟩) ?rest18
                  case hy18 => (intro w; go_simp; (try with_reducible rfl))
                  refine wpAny_ready (rs := [0, 5]) (by kernel_rfl) (by simp) ?_
                  refine AllReady.cons rfl (fun K hK => ?_) ?_
                  · go_simp
                    refine hK _ _ ?_; clear hK K
                    refine wpAny_ready (rs := [4, 5]) (by kernel_rfl) (by simp) ?_
                    refine AllReady.cons rfl (fun K hK => ?_) ?_
                    · skip
                      refine step_append_own rfl _ _ 22 rfl V.heap.size 44 i0 Ln.zero.val 11 40 Tryz.underlying22 Hi.out Hy0.out Hy1.out Hy2.out rfl (by decide) _ 0 [] rfl (fresh_own V _ (by simp) (by simp)) ⟨g, 0, none⟩ j _ ((M.take j).flatMap Ln.cells) rfl hl1 (fun t u h => (upI : Up V _).cell_some (hc1' t u h)) (flat_one _) (by unfold maxLen; omega) (by omega) (upI : Up V _).size ?_
                      intro v1 w1 hown1 hgrow
                      have hu1 : Up V w1 := Up.grown (upI : Up V _) hgrow (fun k' h => by have h' := Option.some.inj h; subst h'; first | exact Nat.le_refl _ | simp)
                      obtain ⟨x1, rfl⟩ := hu1.mk
                      have Hown1 := Lib.hid hown1
                      clear hown1 hgrow hu1
                      refine hK _ _ ?_; clear hK K
                      refine wpAny_ready (rs := [5]) (by kernel_rfl) (by simp) ?_
                      refine AllReady.cons rfl (fun K hK => ?_) ?_
                      · go_simp
                        refine hK _ _ ?_; clear hK K
                        refine wpAny_ready (rs := [6]) (by kernel_rfl) (by simp) ?_
                        refine AllReady.cons rfl (fun K hK => ?_) ?_
                        · go_simp
                          refine hK _ _ ?_; clear hK K
                          refine wpAny_ready (rs := [7]) (by kernel_rfl) (by simp) ?_
                          refine AllReady.cons rfl (fun K hK => ?_) ?_
                          · skip
                            refine step_append_own rfl _ _ 22 rfl V.heap.size 44 i0 Ln.zero.val 11 40 Tryz.underlying22 Hi.out Hy0.out Hy1.out Hy2.out rfl (by decide) v1 _ _ rfl (owns_up Hown1.out (upI : Up x1.w _)) ⟨_, 0, none⟩ 1 1 y.cells rfl rfl (ln_at x1.w y _) (fun u h => y.one u h) (by unfold maxLen; omega) (by omega) (upI : Up V _).size ?_
                            intro v2 w2 hown2 hgrow
                            have hu2 : Up V w2 := Up.grown (upI : Up V _) hgrow (fun k' h => owns_row Hown1.out k' h)
                            obtain ⟨x2, rfl⟩ := hu2.mk
                            have Hown2 := Lib.hid hown2
                            clear hown2 hgrow hu2
                            refine hK _ _ ?_; clear hK K
                            refine wpAny_ready (rs := [11]) (by kernel_rfl) (by simp) ?_
                            refine AllReady.cons rfl (fun K hK => ?_) ?_
                            · skip
                              refine step_append_own rfl _ _ 22 rfl V.heap.size 44 i0 Ln.zero.val 11 40 Tryz.underlying22 Hi.out Hy0.out Hy1.out Hy2.out rfl (by decide) v2 _ _ rfl Hown2.out ⟨g, j * 11, none⟩ (m - j) _ ((M.drop j).flatMap Ln.cells) rfl hl2 (fun t u h => (upI : Up V _).cell_some (hc2' t u h)) (flat_one _) (by unfold maxLen; omega) (by omega) (upI : Up V _).size ?_
                              intro v3 w3 hown3 hgrow
                              have hu3 : Up V w3 := Up.grown (upI : Up V _) hgrow (fun k' h => owns_row Hown2.out k' h)
                              obtain ⟨x3, rfl⟩ := hu3.mk
                              have Hown3 := Lib.hid hown3
                              clear hown3 hgrow hu3
                              refine hK _ _ ?_; clear hK K
                              refine any_take (i := 12) (v := ?v19) rfl (by kernel_rfl) (by kernel_rfl) (by kernel_rfl) (Or.inl ⟨by kernel_rfl, ?hy19⟩) ?rest19
                              case hy19 => (intro w; go_simp; (try with_reducible rfl))
                              refine wpAny_done (by kernel_rfl) ?_ _
                              refine ⟨rfl, ?_⟩
                              go_wp2_with fail
                              go_roundw
                              case rel => exact ⟨k + 1, M.take j ++ y :: M.drop j, by omega, by go_num, Lib.hid (by rw [HMs.out, HI.out]), hlen3, Lib.hid (hfin Hown3.out), upI⟩
                              case measure => simp [intOf]; omega
                            exact AllReady.nil
                          exact AllReady.nil
                        exact AllReady.nil
                      exact AllReady.nil
                    refine AllReady.cons rfl (fun K hK => ?_) ?_
                    · go_simp
                      refine hK _ _ ?_; clear hK K
                      refine wpAny_ready (rs := [4, 6]) (by kernel_rfl) (by simp) ?_
                      refine AllReady.cons rfl (fun K hK => ?_) ?_
                      · skip
                        refine step_append_own rfl _ _ 22 rfl V.heap.size 44 i0 Ln.zero.val 11 40 Tryz.underlying22 Hi.out Hy0.out Hy1.out Hy2.out rfl (by decide) _ 0 [] rfl (fresh_own V _ (by simp) (by simp)) ⟨g, 0, none⟩ j _ ((M.take j).flatMap Ln.cells) rfl hl1 (fun t u h => (upI : Up V _).cell_some (hc1' t u h)) (flat_one _) (by unfold maxLen; omega) (by omega) (upI : Up V _).size ?_
                        intro v1 w1 hown1 hgrow
                        have hu1 : Up V w1 := Up.grown (upI : Up V _) hgrow (fun k' h => by have h' := Option.some.inj h; subst h'; first | exact Nat.le_refl _ | simp)
                        obtain ⟨x1, rfl⟩ := hu1.mk
                        have Hown1 := Lib.hid hown1
                        clear hown1 hgrow hu1
                        refine hK _ _ ?_; clear hK K
                        refine wpAny_ready (rs := [6]) (by kernel_rfl) (by simp) ?_
                        refine AllReady.cons rfl (fun K hK => ?_) ?_
                        · go_simp
                          refine hK _ _ ?_; clear hK K
                          refine wpAny_ready (rs := [7]) (by kernel_rfl) (by simp) ?_
                          refine AllReady.cons rfl (fun K hK => ?_) ?_
                          · skip
                            refine step_append_own rfl _ _ 22 rfl V.heap.size 44 i0 Ln.zero.val 11 40 Tryz.underlying22 Hi.out Hy0.out Hy1.out Hy2.out rfl (by decide) v1 _ _ rfl (owns_up Hown1.out (upI : Up x1.w _)) ⟨_, 0, none⟩ 1 1 y.cells rfl rfl (ln_at x1.w y _) (fun u h => y.one u h) (by unfold maxLen; omega) (by omega) (upI : Up V _).size ?_
                            intro v2 w2 hown2 hgrow
                            have hu2 : Up V w2 := Up.grown (upI : Up V _) hgrow (fun k' h => owns_row Hown1.out k' h)
                            obtain ⟨x2, rfl⟩ := hu2.mk
                            have Hown2 := Lib.hid hown2
                            clear hown2 hgrow hu2
                            refine hK _ _ ?_; clear hK K
                            refine wpAny_ready (rs := [11]) (by kernel_rfl) (by simp) ?_
                            refine AllReady.cons rfl (fun K hK => ?_) ?_
                            · skip
                              refine step_append_own rfl _ _ 22 rfl V.heap.size 44 i0 Ln.zero.val 11 40 Tryz.underlying22 Hi.out Hy0.out Hy1.out Hy2.out rfl (by decide) v2 _ _ rfl Hown2.out ⟨g, j * 11, none⟩ (m - j) _ ((M.drop j).flatMap Ln.cells) rfl hl2 (fun t u h => (upI : Up V _).cell_some (hc2' t u h)) (flat_one _) (by unfold maxLen; omega) (by omega) (upI : Up V _).size ?_
                              intro v3 w3 hown3 hgrow
                              have hu3 : Up V w3 := Up.grown (upI : Up V _) hgrow (fun k' h => owns_row Hown2.out k' h)
                              obtain ⟨x3, rfl⟩ := hu3.mk
                              have Hown3 := Lib.hid hown3
                              clear hown3 hgrow hu3
                              refine hK _ _ ?_; clear hK K
                              refine any_take (i := 12) (v := ?v20) rfl (by kernel_rfl) (by kernel_rfl) (by kernel_rfl) (Or.inl ⟨by kernel_rfl, ?hy20⟩) ?rest20
                              case hy20 => (intro w; go_simp; (try with_reducible rfl))
                              refine wpAny_done (by kernel_rfl) ?_ _
                              refine ⟨rfl, ?_⟩
                              go_wp2_with fail
                              go_roundw
                              case rel => exact ⟨k + 1, M.take j ++ y :: M.drop j, by omega, by go_num, Lib.hid (by rw [HMs.out, HI.out]), hlen3, Lib.hid (hfin Hown3.out), upI⟩
                              case measure => simp [intOf]; omega
                            exact AllReady.nil
                          exact AllReady.nil
                        exact AllReady.nil
                      refine AllReady.cons rfl (fun K hK => ?_) ?_
                      · go_simp
                        refine hK _ _ ?_; clear hK K
                        refine wpAny_ready (rs := [4]) (by kernel_rfl) (by simp) ?_
                        refine AllReady.cons rfl (fun K hK => ?_) ?_
                        · skip
                          refine step_append_own rfl _ _ 22 rfl V.heap.size 44 i0 Ln.zero.val 11 40 Tryz.underlying22 Hi.out Hy0.out Hy1.out Hy2.out rfl (by decide) _ 0 [] rfl (owns_up (fresh_own V _ (by simp) (by simp)) (((Up.refl _).alloc _).drew)) ⟨g, 0, none⟩ j _ ((M.take j).flatMap Ln.cells) rfl hl1 (fun t u h => (upI : Up V _).cell_some (hc1' t u h)) (flat_one _) (by unfold maxLen; omega) (by omega) (upI : Up V _).size ?_
                          intro v1 w1 hown1 hgrow
                          have hkY : w1.heap[V.heap.size + 1]? = some (.cells y.cells.toArray 44 (0, 0)) := (hgrow.block (V.heap.size + 1) (by simp) (fun h => by have h' := Option.some.inj h; (try simp at h'); (try omega))).trans (alloc_new (by simp))
                          have hu1 : Up V w1 := Up.grown (upI : Up V _) hgrow (fun k' h => by have h' := Option.some.inj h; subst h'; first | exact Nat.le_refl _ | simp)
                          obtain ⟨x1, rfl⟩ := hu1.mk
                          have Hown1 := Lib.hid hown1
                          clear hown1 hgrow hu1
                          refine hK _ _ ?_; clear hK K
                          refine wpAny_ready (rs := [7]) (by kernel_rfl) (by simp) ?_
                          refine AllReady.cons rfl (fun K hK => ?_) ?_
                          · skip
                            refine step_append_own rfl _ _ 22 rfl V.heap.size 44 i0 Ln.zero.val 11 40 Tryz.underlying22 Hi.out Hy0.out Hy1.out Hy2.out rfl (by decide) v1 _ _ rfl Hown1.out ⟨_, 0, none⟩ 1 1 y.cells rfl rfl (row_ln hkY) (fun u h => y.one u h) (by unfold maxLen; omega) (by omega) (upI : Up V _).size ?_
                            intro v2 w2 hown2 hgrow
                            have hu2 : Up V w2 := Up.grown (upI : Up V _) hgrow (fun k' h => owns_row Hown1.out k' h)
                            obtain ⟨x2, rfl⟩ := hu2.mk
                            have Hown2 := Lib.hid hown2
                            clear hown2 hgrow hu2
                            refine hK _ _ ?_; clear hK K
                            refine wpAny_ready (rs := [11]) (by kernel_rfl) (by simp) ?_
                            refine AllReady.cons rfl (fun K hK => ?_) ?_
                            · skip
                              refine step_append_own rfl _ _ 22 rfl V.heap.size 44 i0 Ln.zero.val 11 40 Tryz.underlying22 Hi.out Hy0.out Hy1.out Hy2.out rfl (by decide) v2 _ _ rfl Hown2.out ⟨g, j * 11, none⟩ (m - j) _ ((M.drop j).flatMap Ln.cells) rfl hl2 (fun t u h => (upI : Up V _).cell_some (hc2' t u h)) (flat_one _) (by unfold maxLen; omega) (by omega) (upI : Up V _).size ?_
                              intro v3 w3 hown3 hgrow
                              have hu3 : Up V w3 := Up.grown (upI : Up V _) hgrow (fun k' h => owns_row Hown2.out k' h)
                              obtain ⟨x3, rfl⟩ := hu3.mk
                              have Hown3 := Lib.hid hown3
                              clear hown3 hgrow hu3
                              refine hK _ _ ?_; clear hK K
                              refine any_take (i := 12) (v := ?v21) rfl (by kernel_rfl) (by kernel_rfl) (by kernel_rfl) (Or.inl ⟨by kernel_rfl, ?hy21⟩) ?rest21
                              case hy21 => (intro w; go_simp; (try with_reducible rfl))
                              refine wpAny_done (by kernel_rfl) ?_ _
                              refine ⟨rfl, ?_⟩
                              go_wp2_with fail
                              go_roundw
                              case rel => exact ⟨k + 1, M.take j ++ y :: M.drop j, by omega, by go_num, Lib.hid (by rw [HMs.out, HI.out]), hlen3, Lib.hid (hfin Hown3.out), upI⟩
                              case measure => simp [intOf]; omega
                            exact AllReady.nil
                          exact AllReady.nil
                        exact AllReady.nil
                      exact AllReady.nil
                    exact AllReady.nil
                  refine AllReady.cons rfl (fun K hK => ?_) ?_
                  · go_simp
                    refine hK _ _ ?_; clear hK K
                    refine wpAny_ready (rs := [0, 6]) (by kernel_rfl) (by simp) ?_
                    refine AllReady.cons rfl (fun K hK => ?_) ?_
                    · go_simp
                      refine hK _ _ ?_; clear hK K
                      refine wpAny_ready (rs := [4, 6]) (by kernel_rfl) (by simp) ?_
                      refine AllReady.cons rfl (fun K hK => ?_) ?_
                      · skip
                        refine step_append_own rfl _ _ 22 rfl V.heap.size 44 i0 Ln.zero.val 11 40 Tryz.underlying22 Hi.out Hy0.out Hy1.out Hy2.out rfl (by decide) _ 0 [] rfl (fresh_own V _ (by simp) (by simp)) ⟨g, 0, none⟩ j _ ((M.take j).flatMap Ln.cells) rfl hl1 (fun t u h => (upI : Up V _).cell_some (hc1' t u h)) (flat_one _) (by unfold maxLen; omega) (by omega) (upI : Up V _).size ?_
                        intro v1 w1 hown1 hgrow
                        have hu1 : Up V w1 := Up.grown (upI : Up V _) hgrow (fun k' h => by have h' := Option.some.inj h; subst h'; first | exact Nat.le_refl _ | simp)
                        obtain ⟨x1, rfl⟩ := hu1.mk
                        have Hown1 := Lib.hid hown1
                        clear hown1 hgrow hu1
                        refine hK _ _ ?_; clear hK K
                        refine wpAny_ready (rs := [6]) (by kernel_rfl) (by simp) ?_
                        refine AllReady.cons rfl (fun K hK => ?_) ?_
                        · go_simp
                          refine hK _ _ ?_; clear hK K
                          refine wpAny_ready (rs := [7]) (by kernel_rfl) (by simp) ?_
                          refine AllReady.cons rfl (fun K hK => ?_) ?_
                          · skip
                            refine step_append_own rfl _ _ 22 rfl V.heap.size 44 i0 Ln.zero.val 11 40 Tryz.underlying22 Hi.out Hy0.out Hy1.out Hy2.out rfl (by decide) v1 _ _ rfl (owns_up Hown1.out (upI : Up x1.w _)) ⟨_, 0, none⟩ 1 1 y.cells rfl rfl (ln_at x1.w y _) (fun u h => y.one u h) (by unfold maxLen; omega) (by omega) (upI : Up V _).size ?_
                            intro v2 w2 hown2 hgrow
                            have hu2 : Up V w2 := Up.grown (upI : Up V _) hgrow (fun k' h => owns_row Hown1.out k' h)
                            obtain ⟨x2, rfl⟩ := hu2.mk
                            have Hown2 := Lib.hid hown2
                            clear hown2 hgrow hu2
                            refine hK _ _ ?_; clear hK K
                            refine wpAny_ready (rs := [11]) (by kernel_rfl) (by simp) ?_
                            refine AllReady.cons rfl (fun K hK => ?_) ?_
                            · skip
                              refine step_append_own rfl _ _ 22 rfl V.heap.size 44 i0 Ln.zero.val 11 40 Tryz.underlying22 Hi.out Hy0.out Hy1.out Hy2.out rfl (by decide) v2 _ _ rfl Hown2.out ⟨g, j * 11, none⟩ (m - j) _ ((M.drop j).flatMap Ln.cells) rfl hl2 (fun t u h => (upI : Up V _).cell_some (hc2' t u h)) (flat_one _) (by unfold maxLen; omega) (by omega) (upI : Up V _).size ?_
                              intro v3 w3 hown3 hgrow
                              have hu3 : Up V w3 := Up.grown (upI : Up V _) hgrow (fun k' h => owns_row Hown2.out k' h)
                              obtain ⟨x3, rfl⟩ := hu3.mk
                              have Hown3 := Lib.hid hown3
                              clear hown3 hgrow hu3
                              refine hK _ _ ?_; clear hK K
                              refine any_take (i := 12) (v := ?v22) rfl (by kernel_rfl) (by kernel_rfl) (by kernel_rfl) (Or.inl ⟨by kernel_rfl, ?hy22⟩) ?rest22
                              case hy22 => (intro w; go_simp; (try with_reducible rfl))
                              refine wpAny_done (by kernel_rfl) ?_ _
                              refine ⟨rfl, ?_⟩
                              go_wp2_with fail
                              go_roundw
                              case rel => exact ⟨k + 1, M.take j ++ y :: M.drop j, by omega, by go_num, Lib.hid (by rw [HMs.out, HI.out]), hlen3, Lib.hid (hfin Hown3.out), upI⟩
                              case measure => simp [intOf]; omega
                            exact AllReady.nil
                          exact AllReady.nil
                        exact AllReady.nil
                      refine AllReady.cons rfl (fun K hK => ?_) ?_
                      · go_simp
                        refine hK _ _ ?_; clear hK K
                        refine wpAny_ready (rs := [4]) (by kernel_rfl) (by simp) ?_
                        refine AllReady.cons rfl (fun K hK => ?_) ?_
                        · skip
                          refine step_append_own rfl _ _ 22 rfl V.heap.size 44 i0 Ln.zero.val 11 40 Tryz.underlying22 Hi.out Hy0.out Hy1.out Hy2.out rfl (by decide) _ 0 [] rfl (owns_up (fresh_own V _ (by simp) (by simp)) (((Up.refl _).alloc _).drew)) ⟨g, 0, none⟩ j _ ((M.take j).flatMap Ln.cells) rfl hl1 (fun t u h => (upI : Up V _).cell_some (hc1' t u h)) (flat_one _) (by unfold maxLen; omega) (by omega) (upI : Up V _).size ?_
                          intro v1 w1 hown1 hgrow
                          have hkY : w1.heap[V.heap.size + 1]? = some (.cells y.cells.toArray 44 (0, 0)) := (hgrow.block (V.heap.size + 1) (by simp) (fun h => by have h' := Option.some.inj h; (try simp at h'); (try omega))).trans (alloc_new (by simp))
                          have hu1 : Up V w1 := Up.grown (upI : Up V _) hgrow (fun k' h => by have h' := Option.some.inj h; subst h'; first | exact Nat.le_refl _ | simp)
                          obtain ⟨x1, rfl⟩ := hu1.mk
                          have Hown1 := Lib.hid hown1
                          clear hown1 hgrow hu1
                          refine hK _ _ ?_; clear hK K
                          refine wpAny_ready (rs := [7]) (by kernel_rfl) (by simp) ?_
                          refine AllReady.cons rfl (fun K hK => ?_) ?_
                          · skip
                            refine step_append_own rfl _ _ 22 rfl V.heap.size 44 i0 Ln.zero.val 11 40 Tryz.underlying22 Hi.out Hy0.out Hy1.out Hy2.out rfl (by decide) v1 _ _ rfl Hown1.out ⟨_, 0, none⟩ 1 1 y.cells rfl rfl (row_ln hkY) (fun u h => y.one u h) (by unfold maxLen; omega) (by omega) (upI : Up V _).size ?_
                            intro v2 w2 hown2 hgrow
                            have hu2 : Up V w2 := Up.grown (upI : Up V _) hgrow (fun k' h => owns_row Hown1.out k' h)
                            obtain ⟨x2, rfl⟩ := hu2.mk
                            have Hown2 := Lib.hid hown2
                            clear hown2 hgrow hu2
                            refine hK _ _ ?_; clear hK K
                            refine wpAny_ready (rs := [11]) (by kernel_rfl) (by simp) ?_
                            refine AllReady.cons rfl (fun K hK => ?_) ?_
                            · skip
                              refine step_append_own rfl _ _ 22 rfl V.heap.size 44 i0 Ln.zero.val 11 40 Tryz.underlying22 Hi.out Hy0.out Hy1.out Hy2.out rfl (by decide) v2 _ _ rfl Hown2.out ⟨g, j * 11, none⟩ (m - j) _ ((M.drop j).flatMap Ln.cells) rfl hl2 (fun t u h => (upI : Up V _).cell_some (hc2' t u h)) (flat_one _) (by unfold maxLen; omega) (by omega) (upI : Up V _).size ?_
                              intro v3 w3 hown3 hgrow
                              have hu3 : Up V w3 := Up.grown (upI : Up V _) hgrow (fun k' h => owns_row Hown2.out k' h)
                              obtain ⟨x3, rfl⟩ := hu3.mk
                              have Hown3 := Lib.hid hown3
                              clear hown3 hgrow hu3
                              refine hK _ _ ?_; clear hK K
                              refine any_take (i := 12) (v := ?v23) rfl (by kernel_rfl) (by kernel_rfl) (by kernel_rfl) (Or.inl ⟨by kernel_rfl, ?hy23⟩) ?rest23
                              case hy23 => (intro w; go_simp; (try with_reducible rfl))
                              refine wpAny_done (by kernel_rfl) ?_ _
                              refine ⟨rfl, ?_⟩
                              go_wp2_with fail
                              go_roundw
                              case rel => exact ⟨k + 1, M.take j ++ y :: M.drop j, by omega, by go_num, Lib.hid (by rw [HMs.out, HI.out]), hlen3, Lib.hid (hfin Hown3.out), upI⟩
                              case measure => simp [intOf]; omega
                            exact AllReady.nil
                          exact AllReady.nil
                        exact AllReady.nil
                      exact AllReady.nil
                    refine AllReady.cons rfl (fun K hK => ?_) ?_
                    · go_simp
                      refine hK _ _ ?_; clear hK K
                      refine wpAny_ready (rs := [0]) (by kernel_rfl) (by simp) ?_
                      refine AllReady.cons rfl (fun K hK => ?_) ?_
                      · go_simp
                        refine hK _ _ ?_; clear hK K
                        refine wpAny_ready (rs := [4]) (by kernel_rfl) (by simp) ?_
                        refine AllReady.cons rfl (fun K hK => ?_) ?_
                        · skip
                          refine step_append_own rfl _ _ 22 rfl V.heap.size 44 i0 Ln.zero.val 11 40 Tryz.underlying22 Hi.out Hy0.out Hy1.out Hy2.out rfl (by decide) _ 0 [] rfl (fresh_own (V.alloc (.cells y.cells.toArray 44)) _ (by simp) (by simp)) ⟨g, 0, none⟩ j _ ((M.take j).flatMap Ln.cells) rfl hl1 (fun t u h => (upI : Up V _).cell_some (hc1' t u h)) (flat_one _) (by unfold maxLen; omega) (by omega) (upI : Up V _).size ?_
                          intro v1 w1 hown1 hgrow
                          have hkY : w1.heap[V.heap.size]? = some (.cells y.cells.toArray 44 (0, 0)) := (hgrow.block V.heap.size (by simp; omega) (fun h => by have h' := Option.some.inj h; (try simp at h'); (try omega))).trans ((Below.heap_alloc _ _ _ (by simp)).trans (alloc_new (by simp)))
                          have hu1 : Up V w1 := Up.grown (upI : Up V _) hgrow (fun k' h => by have h' := Option.some.inj h; subst h'; first | exact Nat.le_refl _ | simp)
                          obtain ⟨x1, rfl⟩ := hu1.mk
                          have Hown1 := Lib.hid hown1
                          clear hown1 hgrow hu1
                          refine hK _ _ ?_; clear hK K
                          refine wpAny_ready (rs := [7]) (by kernel_rfl) (by simp) ?_
                          refine AllReady.cons rfl (fun K hK => ?_) ?_
                          · skip
                            refine step_append_own rfl _ _ 22 rfl V.heap.size 44 i0 Ln.zero.val 11 40 Tryz.underlying22 Hi.out Hy0.out Hy1.out Hy2.out rfl (by decide) v1 _ _ rfl Hown1.out ⟨_, 0, none⟩ 1 1 y.cells rfl rfl (row_ln hkY) (fun u h => y.one u h) (by unfold maxLen; omega) (by omega) (upI : Up V _).size ?_
                            intro v2 w2 hown2 hgrow
                            have hu2 : Up V w2 := Up.grown (upI : Up V _) hgrow (fun k' h => owns_row Hown1.out k' h)
                            obtain ⟨x2, rfl⟩ := hu2.mk
                            have Hown2 := Lib.hid hown2
                            clear hown2 hgrow hu2
                            refine hK _ _ ?_; clear hK K
                            refine wpAny_ready (rs := [11]) (by kernel_rfl) (by simp) ?_
                            refine AllReady.cons rfl (fun K hK => ?_) ?_
                            · skip
                              refine step_append_own rfl _ _ 22 rfl V.heap.size 44 i0 Ln.zero.val 11 40 Tryz.underlying22 Hi.out Hy0.out Hy1.out Hy2.out rfl (by decide) v2 _ _ rfl Hown2.out ⟨g, j * 11, none⟩ (m - j) _ ((M.drop j).flatMap Ln.cells) rfl hl2 (fun t u h => (upI : Up V _).cell_some (hc2' t u h)) (flat_one _) (by unfold maxLen; omega) (by omega) (upI : Up V _).size ?_
                              intro v3 w3 hown3 hgrow
                              have hu3 : Up V w3 := Up.grown (upI : Up V _) hgrow (fun k' h => owns_row Hown2.out k' h)
                              obtain ⟨x3, rfl⟩ := hu3.mk
                              have Hown3 := Lib.hid hown3
                              clear hown3 hgrow hu3
                              refine hK _ _ ?_; clear hK K
                              refine any_take (i := 12) (v := ?v24) rfl (by kernel_rfl) (by kernel_rfl) (by kernel_rfl) (Or.inl ⟨by kernel_rfl, ?hy24⟩) ?rest24
                              case hy24 => (intro w; go_simp; (try with_reducible rfl))
                              refine wpAny_done (by kernel_rfl) ?_ _
                              refine ⟨rfl, ?_⟩
                              go_wp2_with fail
                              go_roundw
                              case rel => exact ⟨k + 1, M.take j ++ y :: M.drop j, by omega, by go_num, Lib.hid (by rw [HMs.out, HI.out]), hlen3, Lib.hid (hfin Hown3.out), upI⟩
                              case measure => simp [intOf]; omega
                            exact AllReady.nil
                          exact AllReady.nil
                        exact AllReady.nil
                      exact AllReady.nil
                    exact AllReady.nil
                  exact AllReady.nil
              · have hkc : (e.pr == y.pr && (e.s == y.s && (e.d == y.d && (e.sp == y.sp && e.dp == y.dp)))) = true := hkb
                have HI := Lib.hid (show insL y M = M by unfold insL; rw [hj2, he]; simp [hkb])
                clear hkb
                go_wp2_with fail
                (refine wp_region_ext (by kernel_rfl) (by kernel_rfl) ?_; (repeat (go_big_quiet_step (fail))); refine wpQuiet_nil ?_; rintro _ ⟨y10, rfl⟩)
                go_wp2_with fail
                go_roundw
                case rel => exact ⟨k + 1, M, by omega, by go_num, Lib.hid (by rw [HMs.out, HI.out]), by rw [Hm.out]; omega, Lib.hid (by rw [Hm.out]; exact owns_up HO2.out upI), upI⟩
                case measure => simp [intOf]; omega
          · obtain rfl : j = m := by omega
            have hj2 : insAt y M = j := by have := insAt_le y M; rw [Hm.out] at this; omega
            clear hji
            go_wp2_with fail
            (refine wp_region_ext (by kernel_rfl) (by kernel_rfl) ?_; (repeat (go_big_quiet_step (fail))); refine wpQuiet_nil ?_; rintro _ ⟨y9, rfl⟩)
            go_wp2_with fail
            (refine wp_region_ext (by kernel_rfl) (by kernel_rfl) ?_; (repeat (go_big_quiet_step (fail))); refine wpQuiet_nil ?_; rintro _ ⟨y10, rfl⟩)
            go_wp2_with fail
            have HI := Lib.hid (show insL y M = M.take j ++ y :: M.drop j by unfold insL; rw [hj2, List.getElem?_eq_none (by rw [Hm.out]; exact Nat.le_refl _), List.take_of_length_le (by rw [Hm.out]; exact Nat.le_refl _), List.drop_of_length_le (by rw [Hm.out]; exact Nat.le_refl _)])
            refine wp_letter (fun V => UpI w V ∧ LnAt V q y ∧ LtSize g V ∧ V.ownsRow w.heap.size 44 11 (.slice (some ⟨g, 0, none⟩) j cap3) j (M.flatMap Ln.cells)) ⟨inferInstance, HY.out.up upI, inferInstance, owns_up HO2.out upI⟩ ?_
            clear HO2 HO hrow y0 y1 y2 y3 y4 y5 y6 y7 y8 y9 y10
            rintro V ⟨uV, hY, hgV, hOV⟩
            haveI := uV
            haveI := hgV
            haveI := hY.lt
            obtain ⟨y0, y1, y2, y3, y4, y5, y6, y7, y8, y9, y10⟩ := hY
            have hcV : ∀ (t : Nat) u, (M.flatMap Ln.cells)[t]? = some u → V.cell? ⟨g, t, none⟩ = some u := fun t u h => own_cell hOV t u h
            have hl1 : ((M.take j).flatMap Ln.cells).length = j * 11 := by rw [flat_length (cells := Ln.cells) (fun z => z.cells_length), List.length_take, Hm.out]; congr 1; omega
            have hl2 : ((M.drop j).flatMap Ln.cells).length = 0 * 11 := by rw [flat_length (cells := Ln.cells) (fun z => z.cells_length), List.length_drop, Hm.out]; (try simp)
            have hc1' : ∀ (t : Nat) u, ((M.take j).flatMap Ln.cells)[t]? = some u → V.cell? (Addr.add ⟨g, 0, none⟩ t) = some u := fun t u h => by
              rw [add_zero_off]
              have ht : t < j * 11 := by rw [← hl1]; exact (List.getElem?_eq_some_iff.1 h).1
              rw [flat_take, List.getElem?_take, if_pos ht] at h
              exact hcV t u h
            have hlen3 : (M.take j ++ y :: M.drop j).length ≤ k + 1 := by rw [List.length_append, List.length_cons, List.length_take, List.length_drop, Hm.out]; omega
            have hfin : ∀ {X : World} {v3 : Value}, X.ownsRow V.heap.size 44 11 v3 (0 + j + 1 + 0) ([] ++ (M.take j).flatMap Ln.cells ++ y.cells ++ (M.drop j).flatMap Ln.cells) → X.ownsRow w.heap.size 44 11 v3 (M.take j ++ y :: M.drop j).length ((M.take j ++ y :: M.drop j).flatMap Ln.cells) := fun h => by
              have e1 : (M.take j ++ y :: M.drop j).length = 0 + j + 1 + 0 := by rw [List.length_append, List.length_cons, List.length_take, List.length_drop, Hm.out]; omega
              rw [e1, List.flatMap_append, List.flatMap_cons, ← List.append_assoc]
              exact owns_base h uV.up.size
            obtain ⟨i0, hi, hy0, hy1, hy2⟩ := info_parts infoLine
            have Hi := Lib.hid hi; have Hy0 := Lib.hid hy0; have Hy1 := Lib.hid hy1; have Hy2 := Lib.hid hy2
            clear hi hy0 hy1 hy2 hOV
            have hjc : j ≤ cap3 := by omega
            have hjm2 : j ≤ j := by omega
            have hmix : Tryz.prog.follows .mixedOrders = true := by kernel_rfl
            by_cases hca : cap3 = j
            · have hdr : (M.drop j).flatMap Ln.cells = [] := by rw [List.drop_of_length_le (by rw [Hm.out]; omega)]; rfl
              have hc2' : ∀ (t : Nat) u, ((M.drop j).flatMap Ln.cells)[t]? = some u → V.cell? (Addr.add ⟨g, 0, none⟩ t) = some u := fun t u h => by rw [hdr] at h; cases h
              refine wp_region_turn hmix ?_
              refine any_take (i := 1) (v := ?v25) rfl (by kernel_rfl) (by kernel_rfl) (by kernel_rfl) (Or.inl ⟨by kernel_rfl, ?hy25⟩) ?rest25
              case hy25 => (intro w; go_simp; (try with_reducible rfl))
              refine any_take (i := 2) (v := ?v26) rfl (by kernel_rfl) (by kernel_rfl) (by kernel_rfl) (Or.inl ⟨by kernel_rfl, ?hy26⟩) ?rest26
              case hy26 => (intro w; go_simp; (try with_reducible rfl))
              refine any_take (i := 3) (v := ?v27) rfl (by kernel_rfl) (by kernel_rfl) (by kernel_rfl) (Or.inl ⟨by kernel_rfl, ?hy27⟩) ?rest27
              case hy27 => (intro w; go_simp; (try with_reducible rfl))
              refine any_take (i := 8) (v := ?v28) rfl (by kernel_rfl) (by kernel_rfl) (by kernel_rfl) (Or.inl ⟨by kernel_rfl, ?hy28⟩) ?rest28
              case hy28 => (intro w; go_simp; (try with_reducible rfl))
              refine any_take (i := 9) (v := ?v29) rfl (by kernel_rfl) (by kernel_rfl) (by kernel_rfl) (Or.inl ⟨by kernel_rfl, ?hy29⟩) ?rest29
              case hy29 => (intro w; go_simp; (try with_reducible rfl))
              refine any_take (i := 10) (v := ?v30) rfl (by kernel_rfl) (by kernel_rfl) (by kernel_rfl) (Or.inl ⟨by kernel_rfl, ?hy30⟩) ?rest30
              case hy30 => (intro w; go_simp; (try with_reducible rfl))
              refine wpAny_ready (rs := [0, 5]) (by kernel_rfl) (by simp) ?_
              refine AllReady.cons rfl (fun K hK => ?_) ?_
              · go_simp
                refine hK _ _ ?_; clear hK K
                refine wpAny_ready (rs := [4, 5]) (by kernel_rfl) (by simp) ?_
                refine AllReady.cons rfl (fun K hK => ?_) ?_
                · skip
                  refine step_append_own rfl _ _ 22 rfl V.heap.size 44 i0 Ln.zero.val 11 40 Tryz.underlying22 Hi.out Hy0.out Hy1.out Hy2.out rfl (by decide) _ 0 [] rfl (fresh_own V _ (by simp) (by simp)) ⟨g, 0, none⟩ j _ ((M.take j).flatMap Ln.cells) rfl hl1 (fun t u h => (upI : Up V _).cell_some (hc1' t u h)) (flat_one _) (by unfold maxLen; omega) (by omega) (upI : Up V _).size ?_
                  intro v1 w1 hown1 hgrow
                  have hu1 : Up V w1 := Up.grown (upI : Up V _) hgrow (fun k' h => by have h' := Option.some.inj h; subst h'; first | exact Nat.le_refl _ | simp)
                  obtain ⟨x1, rfl⟩ := hu1.mk
                  have Hown1 := Lib.hid hown1
                  clear hown1 hgrow hu1
                  refine hK _ _ ?_; clear hK K
                  refine wpAny_ready (rs := [5]) (by kernel_rfl) (by simp) ?_
                  refine AllReady.cons rfl (fun K hK => ?_) ?_
                  · go_simp
                    refine hK _ _ ?_; clear hK K
                    refine wpAny_ready (rs := [6]) (by kernel_rfl) (by simp) ?_
                    refine AllReady.cons rfl (fun K hK => ?_) ?_
                    · go_simp
                      refine hK _ _ ?_; clear hK K
                      refine wpAny_ready (rs := [7]) (by kernel_rfl) (by simp) ?_
                      refine AllReady.cons rfl (fun K hK => ?_) ?_
                      · skip
                        refine step_append_own rfl _ _ 22 rfl V.heap.size 44 i0 Ln.zero.val 11 40 Tryz.underlying22 Hi.out Hy0.out Hy1.out Hy2.out rfl (by decide) v1 _ _ rfl (owns_up Hown1.out (upI : Up x1.w _)) ⟨_, 0, none⟩ 1 1 y.cells rfl rfl (ln_at x1.w y _) (fun u h => y.one u h) (by unfold maxLen; omega) (by omega) (upI : Up V _).size ?_
                        intro v2 w2 hown2 hgrow
                        have hu2 : Up V w2 := Up.grown (upI : Up V _) hgrow (fun k' h => owns_row Hown1.out k' h)
                        obtain ⟨x2, rfl⟩ := hu2.mk
                        have Hown2 := Lib.hid hown2
                        clear hown2 hgrow hu2
                        refine hK _ _ ?_; clear hK K
                        refine wpAny_ready (rs := [11]) (by kernel_rfl) (by simp) ?_
                        refine AllReady.cons rfl (fun K hK => ?_) ?_
                        · skip
                          refine step_append_own rfl _ _ 22 rfl V.heap.size 44 i0 Ln.zero.val 11 40 Tryz.underlying22 Hi.out Hy0.out Hy1.out Hy2.out rfl (by decide) v2 _ _ rfl Hown2.out ⟨g, 0, none⟩ 0 _ ((M.drop j).flatMap Ln.cells) rfl hl2 (fun t u h => (upI : Up V _).cell_some (hc2' t u h)) (flat_one _) (by unfold maxLen; omega) (by omega) (upI : Up V _).size ?_
                          intro v3 w3 hown3 hgrow
                          have hu3 : Up V w3 := Up.grown (upI : Up V _) hgrow (fun k' h => owns_row Hown2.out k' h)
                          obtain ⟨x3, rfl⟩ := hu3.mk
                          have Hown3 := Lib.hid hown3
                          clear hown3 hgrow hu3
                          refine hK _ _ ?_; clear hK K
                          refine any_take (i := 12) (v := ?v31) rfl (by kernel_rfl) (by kernel_rfl) (by kernel_rfl) (Or.inl ⟨by kernel_rfl, ?hy31⟩) ?rest31
                          case hy31 => (intro w; go_simp; (try with_reducible rfl))
                          refine wpAny_done (by kernel_rfl) ?_ _
                          refine ⟨rfl, ?_⟩
                          go_wp2_with fail
                          go_roundw
                          case rel => exact ⟨k + 1, M.take j ++ y :: M.drop j, by omega, by go_num, Lib.hid (by rw [HMs.out, HI.out]), hlen3, Lib.hid (hfin Hown3.out), upI⟩
                          case measure => simp [intOf]; omega
                        exact AllReady.nil
                      exact AllReady.nil
                    exact AllReady.nil
                  exact AllReady.nil
                refine AllReady.cons rfl (fun K hK => ?_) ?_
                · go_simp
                  refine hK _ _ ?_; clear hK K
                  refine wpAny_ready (rs := [4, 6]) (by kernel_rfl) (by simp) ?_
                  refine AllReady.cons rfl (fun K hK => ?_) ?_
                  · skip
                    refine step_append_own rfl _ _ 22 rfl V.heap.size 44 i0 Ln.zero.val 11 40 Tryz.underlying22 Hi.out Hy0.out Hy1.out Hy2.out rfl (by decide) _ 0 [] rfl (fresh_own V _ (by simp) (by simp)) ⟨g, 0, none⟩ j _ ((M.take j).flatMap Ln.cells) rfl hl1 (fun t u h => (upI : Up V _).cell_some (hc1' t u h)) (flat_one _) (by unfold maxLen; omega) (by omega) (upI : Up V _).size ?_
                    intro v1 w1 hown1 hgrow
                    have hu1 : Up V w1 := Up.grown (upI : Up V _) hgrow (fun k' h => by have h' := Option.some.inj h; subst h'; first | exact Nat.le_refl _ | simp)
                    obtain ⟨x1, rfl⟩ := hu1.mk
                    have Hown1 := Lib.hid hown1
                    clear hown1 hgrow hu1
                    refine hK _ _ ?_; clear hK K
                    refine wpAny_ready (rs := [6]) (by kernel_rfl) (by simp) ?_
                    refine AllReady.cons rfl (fun K hK => ?_) ?_
                    · go_simp
                      refine hK _ _ ?_; clear hK K
                      refine wpAny_ready (rs := [7]) (by kernel_rfl) (by simp) ?_
                      refine AllReady.cons rfl (fun K hK => ?_) ?_
                      · skip
                        refine step_append_own rfl _ _ 22 rfl V.heap.size 44 i0 Ln.zero.val 11 40 Tryz.underlying22 Hi.out Hy0.out Hy1.out Hy2.out rfl (by decide) v1 _ _ rfl (owns_up Hown1.out (upI : Up x1.w _)) ⟨_, 0, none⟩ 1 1 y.cells rfl rfl (ln_at x1.w y _) (fun u h => y.one u h) (by unfold maxLen; omega) (by omega) (upI : Up V _).size ?_
                        intro v2 w2 hown2 hgrow
                        have hu2 : Up V w2 := Up.grown (upI : Up V _) hgrow (fun k' h => owns_row Hown1.out k' h)
                        obtain ⟨x2, rfl⟩ := hu2.mk
                        have Hown2 := Lib.hid hown2
                        clear hown2 hgrow hu2
                        refine hK _ _ ?_; clear hK K
                        refine wpAny_ready (rs := [11]) (by kernel_rfl) (by simp) ?_
                        refine AllReady.cons rfl (fun K hK => ?_) ?_
                        · skip
                          refine step_append_own rfl _ _ 22 rfl V.heap.size 44 i0 Ln.zero.val 11 40 Tryz.underlying22 Hi.out Hy0.out Hy1.out Hy2.out rfl (by decide) v2 _ _ rfl Hown2.out ⟨g, 0, none⟩ 0 _ ((M.drop j).flatMap Ln.cells) rfl hl2 (fun t u h => (upI : Up V _).cell_some (hc2' t u h)) (flat_one _) (by unfold maxLen; omega) (by omega) (upI : Up V _).size ?_
                          intro v3 w3 hown3 hgrow
                          have hu3 : Up V w3 := Up.grown (upI : Up V _) hgrow (fun k' h => owns_row Hown2.out k' h)
                          obtain ⟨x3, rfl⟩ := hu3.mk
                          have Hown3 := Lib.hid hown3
                          clear hown3 hgrow hu3
                          refine hK _ _ ?_; clear hK K
                          refine any_take (i := 12) (v := ?v32) rfl (by kernel_rfl) (by kernel_rfl) (by kernel_rfl) (Or.inl ⟨by kernel_rfl, ?hy32⟩) ?rest32
                          case hy32 => (intro w; go_simp; (try with_reducible rfl))
                          refine wpAny_done (by kernel_rfl) ?_ _
                          refine ⟨rfl, ?_⟩
                          go_wp2_with fail
                          go_roundw
                          case rel => exact ⟨k + 1, M.take j ++ y :: M.drop j, by omega, by go_num, Lib.hid (by rw [HMs.out, HI.out]), hlen3, Lib.hid (hfin Hown3.out), upI⟩
                          case measure => simp [intOf]; omega
                        exact AllReady.nil
                      exact AllReady.nil
                    exact AllReady.nil
                  refine AllReady.cons rfl (fun K hK => ?_) ?_
                  · go_simp
                    refine hK _ _ ?_; clear hK K
                    refine wpAny_ready (rs := [4]) (by kernel_rfl) (by simp) ?_
                    refine AllReady.cons rfl (fun K hK => ?_) ?_
                    · skip
                      refine step_append_own rfl _ _ 22 rfl V.heap.size 44 i0 Ln.zero.val 11 40 Tryz.underlying22 Hi.out Hy0.out Hy1.out Hy2.out rfl (by decide) _ 0 [] rfl (owns_up (fresh_own V _ (by simp) (by simp)) (((Up.refl _).alloc _).drew)) ⟨g, 0, none⟩ j _ ((M.take j).flatMap Ln.cells) rfl hl1 (fun t u h => (upI : Up V _).cell_some (hc1' t u h)) (flat_one _) (by unfold maxLen; omega) (by omega) (upI : Up V _).size ?_
                      intro v1 w1 hown1 hgrow
                      have hkY : w1.heap[V.heap.size + 1]? = some (.cells y.cells.toArray 44 (0, 0)) := (hgrow.block (V.heap.size + 1) (by simp) (fun h => by have h' := Option.some.inj h; (try simp at h'); (try omega))).trans (alloc_new (by simp))
                      have hu1 : Up V w1 := Up.grown (upI : Up V _) hgrow (fun k' h => by have h' := Option.some.inj h; subst h'; first | exact Nat.le_refl _ | simp)
                      obtain ⟨x1, rfl⟩ := hu1.mk
                      have Hown1 := Lib.hid hown1
                      clear hown1 hgrow hu1
                      refine hK _ _ ?_; clear hK K
                      refine wpAny_ready (rs := [7]) (by kernel_rfl) (by simp) ?_
                      refine AllReady.cons rfl (fun K hK => ?_) ?_
                      · skip
                        refine step_append_own rfl _ _ 22 rfl V.heap.size 44 i0 Ln.zero.val 11 40 Tryz.underlying22 Hi.out Hy0.out Hy1.out Hy2.out rfl (by decide) v1 _ _ rfl Hown1.out ⟨_, 0, none⟩ 1 1 y.cells rfl rfl (row_ln hkY) (fun u h => y.one u h) (by unfold maxLen; omega) (by omega) (upI : Up V _).size ?_
                        intro v2 w2 hown2 hgrow
                        have hu2 : Up V w2 := Up.grown (upI : Up V _) hgrow (fun k' h => owns_row Hown1.out k' h)
                        obtain ⟨x2, rfl⟩ := hu2.mk
                        have Hown2 := Lib.hid hown2
                        clear hown2 hgrow hu2
                        refine hK _ _ ?_; clear hK K
                        refine wpAny_ready (rs := [11]) (by kernel_rfl) (by simp) ?_
                        refine AllReady.cons rfl (fun K hK => ?_) ?_
                        · skip
                          refine step_append_own rfl _ _ 22 rfl V.heap.size 44 i0 Ln.zero.val 11 40 Tryz.underlying22 Hi.out Hy0.out Hy1.out Hy2.out rfl (by decide) v2 _ _ rfl Hown2.out ⟨g, 0, none⟩ 0 _ ((M.drop j).flatMap Ln.cells) rfl hl2 (fun t u h => (upI : Up V _).cell_some (hc2' t u h)) (flat_one _) (by unfold maxLen; omega) (by omega) (upI : Up V _).size ?_
                          intro v3 w3 hown3 hgrow
                          have hu3 : Up V w3 := Up.grown (upI : Up V _) hgrow (fun k' h => owns_row Hown2.out k' h)
                          obtain ⟨x3, rfl⟩ := hu3.mk
                          have Hown3 := Lib.hid hown3
                          clear hown3 hgrow hu3
                          refine hK _ _ ?_; clear hK K
                          refine any_take (i := 12) (v := ?v33) rfl (by kernel_rfl) (by kernel_rfl) (by kernel_rfl) (Or.inl ⟨by kernel_rfl, ?hy33⟩) ?rest33
                          case hy33 => (intro w; go_simp; (try with_reducible rfl))
                          refine wpAny_done (by kernel_rfl) ?_ _
                          refine ⟨rfl, ?_⟩
                          go_wp2_with fail
                          go_roundw
                          case rel => exact ⟨k + 1, M.take j ++ y :: M.drop j, by omega, by go_num, Lib.hid (by rw [HMs.out, HI.out]), hlen3, Lib.hid (hfin Hown3.out), upI⟩
                          case measure => simp [intOf]; omega
                        exact AllReady.nil
                      exact AllReady.nil
                    exact AllReady.nil
                  exact AllReady.nil
                exact AllReady.nil
              refine AllReady.cons rfl (fun K hK => ?_) ?_
              · go_simp
                refine hK _ _ ?_; clear hK K
                refine wpAny_ready (rs := [0, 6]) (by kernel_rfl) (by simp) ?_
                refine AllReady.cons rfl (fun K hK => ?_) ?_
                · go_simp
                  refine hK _ _ ?_; clear hK K
                  refine wpAny_ready (rs := [4, 6]) (by kernel_rfl) (by simp) ?_
                  refine AllReady.cons rfl (fun K hK => ?_) ?_
                  · skip
                    refine step_append_own rfl _ _ 22 rfl V.heap.size 44 i0 Ln.zero.val 11 40 Tryz.underlying22 Hi.out Hy0.out Hy1.out Hy2.out rfl (by decide) _ 0 [] rfl (fresh_own V _ (by simp) (by simp)) ⟨g, 0, none⟩ j _ ((M.take j).flatMap Ln.cells) rfl hl1 (fun t u h => (upI : Up V _).cell_some (hc1' t u h)) (flat_one _) (by unfold maxLen; omega) (by omega) (upI : Up V _).size ?_
                    intro v1 w1 hown1 hgrow
                    have hu1 : Up V w1 := Up.grown (upI : Up V _) hgrow (fun k' h => by have h' := Option.some.inj h; subst h'; first | exact Nat.le_refl _ | simp)
                    obtain ⟨x1, rfl⟩ := hu1.mk
                    have Hown1 := Lib.hid hown1
                    clear hown1 hgrow hu1
                    refine hK _ _ ?_; clear hK K
                    refine wpAny_ready (rs := [6]) (by kernel_rfl) (by simp) ?_
                    refine AllReady.cons rfl (fun K hK => ?_) ?_
                    · go_simp
                      refine hK _ _ ?_; clear hK K
                      refine wpAny_ready (rs := [7]) (by kernel_rfl) (by simp) ?_
                      refine AllReady.cons rfl (fun K hK => ?_) ?_
                      · skip
                        refine step_append_own rfl _ _ 22 rfl V.heap.size 44 i0 Ln.zero.val 11 40 Tryz.underlying22 Hi.out Hy0.out Hy1.out Hy2.out rfl (by decide) v1 _ _ rfl (owns_up Hown1.out (upI : Up x1.w _)) ⟨_, 0, none⟩ 1 1 y.cells rfl rfl (ln_at x1.w y _) (fun u h => y.one u h) (by unfold maxLen; omega) (by omega) (upI : Up V _).size ?_
                        intro v2 w2 hown2 hgrow
                        have hu2 : Up V w2 := Up.grown (upI : Up V _) hgrow (fun k' h => owns_row Hown1.out k' h)
                        obtain ⟨x2, rfl⟩ := hu2.mk
                        have Hown2 := Lib.hid hown2
                        clear hown2 hgrow hu2
                        refine hK _ _ ?_; clear hK K
                        refine wpAny_ready (rs := [11]) (by kernel_rfl) (by simp) ?_
                        refine AllReady.cons rfl (fun K hK => ?_) ?_
                        · skip
                          refine step_append_own rfl _ _ 22 rfl V.heap.size 44 i0 Ln.zero.val 11 40 Tryz.underlying22 Hi.out Hy0.out Hy1.out Hy2.out rfl (by decide) v2 _ _ rfl Hown2.out ⟨g, 0, none⟩ 0 _ ((M.drop j).flatMap Ln.cells) rfl hl2 (fun t u h => (upI : Up V _).cell_some (hc2' t u h)) (flat_one _) (by unfold maxLen; omega) (by omega) (upI : Up V _).size ?_
                          intro v3 w3 hown3 hgrow
                          have hu3 : Up V w3 := Up.grown (upI : Up V _) hgrow (fun k' h => owns_row Hown2.out k' h)
                          obtain ⟨x3, rfl⟩ := hu3.mk
                          have Hown3 := Lib.hid hown3
                          clear hown3 hgrow hu3
                          refine hK _ _ ?_; clear hK K
                          refine any_take (i := 12) (v := ?v34) rfl (by kernel_rfl) (by kernel_rfl) (by kernel_rfl) (Or.inl ⟨by kernel_rfl, ?hy34⟩) ?rest34
                          case hy34 => (intro w; go_simp; (try with_reducible rfl))
                          refine wpAny_done (by kernel_rfl) ?_ _
                          refine ⟨rfl, ?_⟩
                          go_wp2_with fail
                          go_roundw
                          case rel => exact ⟨k + 1, M.take j ++ y :: M.drop j, by omega, by go_num, Lib.hid (by rw [HMs.out, HI.out]), hlen3, Lib.hid (hfin Hown3.out), upI⟩
                          case measure => simp [intOf]; omega
                        exact AllReady.nil
                      exact AllReady.nil
                    exact AllReady.nil
                  refine AllReady.cons rfl (fun K hK => ?_) ?_
                  · go_simp
                    refine hK _ _ ?_; clear hK K
                    refine wpAny_ready (rs := [4]) (by kernel_rfl) (by simp) ?_
                    refine AllReady.cons rfl (fun K hK => ?_) ?_
                    · skip
                      refine step_append_own rfl _ _ 22 rfl V.heap.size 44 i0 Ln.zero.val 11 40 Tryz.underlying22 Hi.out Hy0.out Hy1.out Hy2.out rfl (by decide) _ 0 [] rfl (owns_up (fresh_own V _ (by simp) (by simp)) (((Up.refl _).alloc _).drew)) ⟨g, 0, none⟩ j _ ((M.take j).flatMap Ln.cells) rfl hl1 (fun t u h => (upI : Up V _).cell_some (hc1' t u h)) (flat_one _) (by unfold maxLen; omega) (by omega) (upI : Up V _).size ?_
                      intro v1 w1 hown1 hgrow
                      have hkY : w1.heap[V.heap.size + 1]? = some (.cells y.cells.toArray 44 (0, 0)) := (hgrow.block (V.heap.size + 1) (by simp) (fun h => by have h' := Option.some.inj h; (try simp at h'); (try omega))).trans (alloc_new (by simp))
                      have hu1 : Up V w1 := Up.grown (upI : Up V _) hgrow (fun k' h => by have h' := Option.some.inj h; subst h'; first | exact Nat.le_refl _ | simp)
                      obtain ⟨x1, rfl⟩ := hu1.mk
                      have Hown1 := Lib.hid hown1
                      clear hown1 hgrow hu1
                      refine hK _ _ ?_; clear hK K
                      refine wpAny_ready (rs := [7]) (by kernel_rfl) (by simp) ?_
                      refine AllReady.cons rfl (fun K hK => ?_) ?_
                      · skip
                        refine step_append_own rfl _ _ 22 rfl V.heap.size 44 i0 Ln.zero.val 11 40 Tryz.underlying22 Hi.out Hy0.out Hy1.out Hy2.out rfl (by decide) v1 _ _ rfl Hown1.out ⟨_, 0, none⟩ 1 1 y.cells rfl rfl (row_ln hkY) (fun u h => y.one u h) (by unfold maxLen; omega) (by omega) (upI : Up V _).size ?_
                        intro v2 w2 hown2 hgrow
                        have hu2 : Up V w2 := Up.grown (upI : Up V _) hgrow (fun k' h => owns_row Hown1.out k' h)
                        obtain ⟨x2, rfl⟩ := hu2.mk
                        have Hown2 := Lib.hid hown2
                        clear hown2 hgrow hu2
                        refine hK _ _ ?_; clear hK K
                        refine wpAny_ready (rs := [11]) (by kernel_rfl) (by simp) ?_
                        refine AllReady.cons rfl (fun K hK => ?_) ?_
                        · skip
                          refine step_append_own rfl _ _ 22 rfl V.heap.size 44 i0 Ln.zero.val 11 40 Tryz.underlying22 Hi.out Hy0.out Hy1.out Hy2.out rfl (by decide) v2 _ _ rfl Hown2.out ⟨g, 0, none⟩ 0 _ ((M.drop j).flatMap Ln.cells) rfl hl2 (fun t u h => (upI : Up V _).cell_some (hc2' t u h)) (flat_one _) (by unfold maxLen; omega) (by omega) (upI : Up V _).size ?_
                          intro v3 w3 hown3 hgrow
                          have hu3 : Up V w3 := Up.grown (upI : Up V _) hgrow (fun k' h => owns_row Hown2.out k' h)
                          obtain ⟨x3, rfl⟩ := hu3.mk
                          have Hown3 := Lib.hid hown3
                          clear hown3 hgrow hu3
                          refine hK _ _ ?_; clear hK K
                          refine any_take (i := 12) (v := ?v35) rfl (by kernel_rfl) (by kernel_rfl) (by kernel_rfl) (Or.inl ⟨by kernel_rfl, ?hy35⟩) ?rest35
                          case hy35 => (intro w; go_simp; (try with_reducible rfl))
                          refine wpAny_done (by kernel_rfl) ?_ _
                          refine ⟨rfl, ?_⟩
                          go_wp2_with fail
                          go_roundw
                          case rel => exact ⟨k + 1, M.take j ++ y :: M.drop j, by omega, by go_num, Lib.hid (by rw [HMs.out, HI.out]), hlen3, Lib.hid (hfin Hown3.out), upI⟩
                          case measure => simp [intOf]; omega
                        exact AllReady.nil
                      exact AllReady.nil
                    exact AllReady.nil
                  exact AllReady.nil
                refine AllReady.cons rfl (fun K hK => ?_) ?_
                · go_simp
                  refine hK _ _ ?_; clear hK K
                  refine wpAny_ready (rs := [0]) (by kernel_rfl) (by simp) ?_
                  refine AllReady.cons rfl (fun K hK => ?_) ?_
                  · go_simp
                    refine hK _ _ ?_; clear hK K
                    refine wpAny_ready (rs := [4]) (by kernel_rfl) (by simp) ?_
                    refine AllReady.cons rfl (fun K hK => ?_) ?_
                    · skip
                      refine step_append_own rfl _ _ 22 rfl V.heap.size 44 i0 Ln.zero.val 11 40 Tryz.underlying22 Hi.out Hy0.out Hy1.out Hy2.out rfl (by decide) _ 0 [] rfl (fresh_own (V.alloc (.cells y.cells.toArray 44)) _ (by simp) (by simp)) ⟨g, 0, none⟩ j _ ((M.take j).flatMap Ln.cells) rfl hl1 (fun t u h => (upI : Up V _).cell_some (hc1' t u h)) (flat_one _) (by unfold maxLen; omega) (by omega) (upI : Up V _).size ?_
                      intro v1 w1 hown1 hgrow
                      have hkY : w1.heap[V.heap.size]? = some (.cells y.cells.toArray 44 (0, 0)) := (hgrow.block V.heap.size (by simp; omega) (fun h => by have h' := Option.some.inj h; (try simp at h'); (try omega))).trans ((Below.heap_alloc _ _ _ (by simp)).trans (alloc_new (by simp)))
                      have hu1 : Up V w1 := Up.grown (upI : Up V _) hgrow (fun k' h => by have h' := Option.some.inj h; subst h'; first | exact Nat.le_refl _ | simp)
                      obtain ⟨x1, rfl⟩ := hu1.mk
                      have Hown1 := Lib.hid hown1
                      clear hown1 hgrow hu1
                      refine hK _ _ ?_; clear hK K
                      refine wpAny_ready (rs := [7]) (by kernel_rfl) (by simp) ?_
                      refine AllReady.cons rfl (fun K hK => ?_) ?_
                      · skip
                        refine step_append_own rfl _ _ 22 rfl V.heap.size 44 i0 Ln.zero.val 11 40 Tryz.underlying22 Hi.out Hy0.out Hy1.out Hy2.out rfl (by decide) v1 _ _ rfl Hown1.out ⟨_, 0, none⟩ 1 1 y.cells rfl rfl (row_ln hkY) (fun u h => y.one u h) (by unfold maxLen; omega) (by omega) (upI : Up V _).size ?_
                        intro v2 w2 hown2 hgrow
                        have hu2 : Up V w2 := Up.grown (upI : Up V _) hgrow (fun k' h => owns_row Hown1.out k' h)
                        obtain ⟨x2, rfl⟩ := hu2.mk
                        have Hown2 := Lib.hid hown2
                        clear hown2 hgrow hu2
                        refine hK _ _ ?_; clear hK K
                        refine wpAny_ready (rs := [11]) (by kernel_rfl) (by simp) ?_
                        refine AllReady.cons rfl (fun K hK => ?_) ?_
                        · skip
                          refine step_append_own rfl _ _ 22 rfl V.heap.size 44 i0 Ln.zero.val 11 40 Tryz.underlying22 Hi.out Hy0.out Hy1.out Hy2.out rfl (by decide) v2 _ _ rfl Hown2.out ⟨g, 0, none⟩ 0 _ ((M.drop j).flatMap Ln.cells) rfl hl2 (fun t u h => (upI : Up V _).cell_some (hc2' t u h)) (flat_one _) (by unfold maxLen; omega) (by omega) (upI : Up V _).size ?_
                          intro v3 w3 hown3 hgrow
                          have hu3 : Up V w3 := Up.grown (upI : Up V _) hgrow (fun k' h => owns_row Hown2.out k' h)
                          obtain ⟨x3, rfl⟩ := hu3.mk
                          have Hown3 := Lib.hid hown3
                          clear hown3 hgrow hu3
                          refine hK _ _ ?_; clear hK K
                          refine any_take (i := 12) (v := ?v36) rfl (by kernel_rfl) (by kernel_rfl) (by kernel_rfl) (Or.inl ⟨by kernel_rfl, ?hy36⟩) ?rest36
                          case hy36 => (intro w; go_simp; (try with_reducible rfl))
                          refine wpAny_done (by kernel_rfl) ?_ _
                          refine ⟨rfl, ?_⟩
                          go_wp2_with fail
                          go_roundw
                          case rel => exact ⟨k + 1, M.take j ++ y :: M.drop j, by omega, by go_num, Lib.hid (by rw [HMs.out, HI.out]), hlen3, Lib.hid (hfin Hown3.out), upI⟩
                          case measure => simp [intOf]; omega
                        exact AllReady.nil
                      exact AllReady.nil
                    exact AllReady.nil
                  exact AllReady.nil
                exact AllReady.nil
              exact AllReady.nil
            · have hc2' : ∀ (t : Nat) u, ((M.drop j).flatMap Ln.cells)[t]? = some u → V.cell? (Addr.add ⟨g, j * 11, none⟩ t) = some u := fun t u h => by
                rw [add_off]
                refine hcV (j * 11 + t) u ?_
                have h3 : M.flatMap Ln.cells = (M.take j).flatMap Ln.cells ++ (M.drop j).flatMap Ln.cells := by rw [← List.flatMap_append, List.take_append_drop]
                rw [h3, List.getElem?_append_right (by rw [hl1]; omega), hl1, show j * 11 + t - j * 11 = t by omega]
                exact h
              refine wp_region_turn hmix ?_
              refine any_take (i := 1) (v := ?v37) rfl (by kernel_rfl) (by kernel_rfl) (by kernel_rfl) (Or.inl ⟨by kernel_rfl, ?hy37⟩) ?rest37
              case hy37 => (intro w; go_simp; (try with_reducible rfl))
              refine any_take (i := 2) (v := ?v38) rfl (by kernel_rfl) (by kernel_rfl) (by kernel_rfl) (Or.inl ⟨by kernel_rfl, ?hy38⟩) ?rest38
              case hy38 => (intro w; go_simp; (try with_reducible rfl))
              refine any_take (i := 3) (v := ?v39) rfl (by kernel_rfl) (by kernel_rfl) (by kernel_rfl) (Or.inl ⟨by kernel_rfl, ?hy39⟩) ?rest39
              case hy39 => (intro w; go_simp; (try with_reducible rfl))
              refine any_take (i := 8) (v := ?v40) rfl (by kernel_rfl) (by kernel_rfl) (by kernel_rfl) (Or.inl ⟨by kernel_rfl, ?hy40⟩) ?rest40
              case hy40 => (intro w; go_simp; (try with_reducible rfl))
              refine any_take (i := 9) (v := ?v41) rfl (by kernel_rfl) (by kernel_rfl) (by kernel_rfl) (Or.inl ⟨by kernel_rfl, ?hy41⟩) ?rest41
              case hy41 => (intro w; go_simp; (try with_reducible rfl))
              refine any_take (i := 10) (v := ?v42) rfl (by kernel_rfl) (by kernel_rfl) (by kernel_rfl) (Or.inl ⟨by kernel_rfl, ?hy42⟩) ?rest42
              case hy42 => (intro w; go_simp; (try with_reducible rfl))
              refine wpAny_ready (rs := [0, 5]) (by kernel_rfl) (by simp) ?_
              refine AllReady.cons rfl (fun K hK => ?_) ?_
              · go_simp
                refine hK _ _ ?_; clear hK K
                refine wpAny_ready (rs := [4, 5]) (by kernel_rfl) (by simp) ?_
                refine AllReady.cons rfl (fun K hK => ?_) ?_
                · skip
                  refine step_append_own rfl _ _ 22 rfl V.heap.size 44 i0 Ln.zero.val 11 40 Tryz.underlying22 Hi.out Hy0.out Hy1.out Hy2.out rfl (by decide) _ 0 [] rfl (fresh_own V _ (by simp) (by simp)) ⟨g, 0, none⟩ j _ ((M.take j).flatMap Ln.cells) rfl hl1 (fun t u h => (upI : Up V _).cell_some (hc1' t u h)) (flat_one _) (by unfold maxLen; omega) (by omega) (upI : Up V _).size ?_
                  intro v1 w1 hown1 hgrow
                  have hu1 : Up V w1 := Up.grown (upI : Up V _) hgrow (fun k' h => by have h' := Option.some.inj h; subst h'; first | exact Nat.le_refl _ | simp)
                  obtain ⟨x1, rfl⟩ := hu1.mk
                  have Hown1 := Lib.hid hown1
                  clear hown1 hgrow hu1
                  refine hK _ _ ?_; clear hK K
                  refine wpAny_ready (rs := [5]) (by kernel_rfl) (by simp) ?_
                  refine AllReady.cons rfl (fun K hK => ?_) ?_
                  · go_simp
                    refine hK _ _ ?_; clear hK K
                    refine wpAny_ready (rs := [6]) (by kernel_rfl) (by simp) ?_
                    refine AllReady.cons rfl (fun K hK => ?_) ?_
                    · go_simp
                      refine hK _ _ ?_; clear hK K
                      refine wpAny_ready (rs := [7]) (by kernel_rfl) (by simp) ?_
                      refine AllReady.cons rfl (fun K hK => ?_) ?_
                      · skip
                        refine step_append_own rfl _ _ 22 rfl V.heap.size 44 i0 Ln.zero.val 11 40 Tryz.underlying22 Hi.out Hy0.out Hy1.out Hy2.out rfl (by decide) v1 _ _ rfl (owns_up Hown1.out (upI : Up x1.w _)) ⟨_, 0, none⟩ 1 1 y.cells rfl rfl (ln_at x1.w y _) (fun u h => y.one u h) (by unfold maxLen; omega) (by omega) (upI : Up V _).size ?_
                        intro v2 w2 hown2 hgrow
                        have hu2 : Up V w2 := Up.grown (upI : Up V _) hgrow (fun k' h => owns_row Hown1.out k' h)
                        obtain ⟨x2, rfl⟩ := hu2.mk
                        have Hown2 := Lib.hid hown2
                        clear hown2 hgrow hu2
                        refine hK _ _ ?_; clear hK K
                        refine wpAny_ready (rs := [11]) (by kernel_rfl) (by simp) ?_
                        refine AllReady.cons rfl (fun K hK => ?_) ?_
                        · skip
                          refine step_append_own rfl _ _ 22 rfl V.heap.size 44 i0 Ln.zero.val 11 40 Tryz.underlying22 Hi.out Hy0.out Hy1.out Hy2.out rfl (by decide) v2 _ _ rfl Hown2.out ⟨g, j * 11, none⟩ 0 _ ((M.drop j).flatMap Ln.cells) rfl hl2 (fun t u h => (upI : Up V _).cell_some (hc2' t u h)) (flat_one _) (by unfold maxLen; omega) (by omega) (upI : Up V _).size ?_
                          intro v3 w3 hown3 hgrow
                          have hu3 : Up V w3 := Up.grown (upI : Up V _) hgrow (fun k' h => owns_row Hown2.out k' h)
                          obtain ⟨x3, rfl⟩ := hu3.mk
                          have Hown3 := Lib.hid hown3
                          clear hown3 hgrow hu3
                          refine hK _ _ ?_; clear hK K
                          refine any_take (i := 12) (v := ?v43) rfl (by kernel_rfl) (by kernel_rfl) (by kernel_rfl) (Or.inl ⟨by kernel_rfl, ?hy43⟩) ?rest43
                          case hy43 => (intro w; go_simp; (try with_reducible rfl))
                          refine wpAny_done (by kernel_rfl) ?_ _
                          refine ⟨rfl, ?_⟩
                          go_wp2_with fail
                          go_roundw
                          case rel => exact ⟨k + 1, M.take j ++ y :: M.drop j, by omega, by go_num, Lib.hid (by rw [HMs.out, HI.out]), hlen3, Lib.hid (hfin Hown3.out), upI⟩
                          case measure => simp [intOf]; omega
                        exact AllReady.nil
                      exact AllReady.nil
                    exact AllReady.nil
                  exact AllReady.nil
                refine AllReady.cons rfl (fun K hK => ?_) ?_
                · go_simp
                  refine hK _ _ ?_; clear hK K
                  refine wpAny_ready (rs := [4, 6]) (by kernel_rfl) (by simp) ?_
                  refine AllReady.cons rfl (fun K hK => ?_) ?_
                  · skip
                    refine step_append_own rfl _ _ 22 rfl V.heap.size 44 i0 Ln.zero.val 11 40 Tryz.underlying22 Hi.out Hy0.out Hy1.out Hy2.out rfl (by decide) _ 0 [] rfl (fresh_own V _ (by simp) (by simp)) ⟨g, 0, none⟩ j _ ((M.take j).flatMap Ln.cells) rfl hl1 (fun t u h => (upI : Up V _).cell_some (hc1' t u h)) (flat_one _) (by unfold maxLen; omega) (by omega) (upI : Up V _).size ?_
                    intro v1 w1 hown1 hgrow
                    have hu1 : Up V w1 := Up.grown (upI : Up V _) hgrow (fun k' h => by have h' := Option.some.inj h; subst h'; first | exact Nat.le_refl _ | simp)
                    obtain ⟨x1, rfl⟩ := hu1.mk
                    have Hown1 := Lib.hid hown1
                    clear hown1 hgrow hu1
                    refine hK _ _ ?_; clear hK K
                    refine wpAny_ready (rs := [6]) (by kernel_rfl) (by simp) ?_
                    refine AllReady.cons rfl (fun K hK => ?_) ?_
                    · go_simp
                      refine hK _ _ ?_; clear hK K
                      refine wpAny_ready (rs := [7]) (by kernel_rfl) (by simp) ?_
                      refine AllReady.cons rfl (fun K hK => ?_) ?_
                      · skip
                        refine step_append_own rfl _ _ 22 rfl V.heap.size 44 i0 Ln.zero.val 11 40 Tryz.underlying22 Hi.out Hy0.out Hy1.out Hy2.out rfl (by decide) v1 _ _ rfl (owns_up Hown1.out (upI : Up x1.w _)) ⟨_, 0, none⟩ 1 1 y.cells rfl rfl (ln_at x1.w y _) (fun u h => y.one u h) (by unfold maxLen; omega) (by omega) (upI : Up V _).size ?_
                        intro v2 w2 hown2 hgrow
                        have hu2 : Up V w2 := Up.grown (upI : Up V _) hgrow (fun k' h => owns_row Hown1.out k' h)
                        obtain ⟨x2, rfl⟩ := hu2.mk
                        have Hown2 := Lib.hid hown2
                        clear hown2 hgrow hu2
                        refine hK _ _ ?_; clear hK K
                        refine wpAny_ready (rs := [11]) (by kernel_rfl) (by simp) ?_
                        refine AllReady.cons rfl (fun K hK => ?_) ?_
                        · skip
                          refine step_append_own rfl _ _ 22 rfl V.heap.size 44 i0 Ln.zero.val 11 40 Tryz.underlying22 Hi.out Hy0.out Hy1.out Hy2.out rfl (by decide) v2 _ _ rfl Hown2.out ⟨g, j * 11, none⟩ 0 _ ((M.drop j).flatMap Ln.cells) rfl hl2 (fun t u h => (upI : Up V _).cell_some (hc2' t u h)) (flat_one _) (by unfold maxLen; omega) (by omega) (upI : Up V _).size ?_
                          intro v3 w3 hown3 hgrow
                          have hu3 : Up V w3 := Up.grown (upI : Up V _) hgrow (fun k' h => owns_row Hown2.out k' h)
                          obtain ⟨x3, rfl⟩ := hu3.mk
                          have Hown3 := Lib.hid hown3
                          clear hown3 hgrow hu3
                          refine hK _ _ ?_; clear hK K
                          refine any_take (i := 12) (v := ?v44) rfl (by kernel_rfl) (by kernel_rfl) (by kernel_rfl) (Or.inl ⟨by kernel_rfl, ?hy44⟩) ?rest44
                          case hy44 => (intro w; go_simp; (try with_reducible rfl))
                          refine wpAny_done (by kernel_rfl) ?_ _
                          refine ⟨rfl, ?_⟩
                          go_wp2_with fail
                          go_roundw
                          case rel => exact ⟨k + 1, M.take j ++ y :: M.drop j, by omega, by go_num, Lib.hid (by rw [HMs.out, HI.out]), hlen3, Lib.hid (hfin Hown3.out), upI⟩
                          case measure => simp [intOf]; omega
                        exact AllReady.nil
                      exact AllReady.nil
                    exact AllReady.nil
                  refine AllReady.cons rfl (fun K hK => ?_) ?_
                  · go_simp
                    refine hK _ _ ?_; clear hK K
                    refine wpAny_ready (rs := [4]) (by kernel_rfl) (by simp) ?_
                    refine AllReady.cons rfl (fun K hK => ?_) ?_
                    · skip
                      refine step_append_own rfl _ _ 22 rfl V.heap.size 44 i0 Ln.zero.val 11 40 Tryz.underlying22 Hi.out Hy0.out Hy1.out Hy2.out rfl (by decide) _ 0 [] rfl (owns_up (fresh_own V _ (by simp) (by simp)) (((Up.refl _).alloc _).drew)) ⟨g, 0, none⟩ j _ ((M.take j).flatMap Ln.cells) rfl hl1 (fun t u h => (upI : Up V _).cell_some (hc1' t u h)) (flat_one _) (by unfold maxLen; omega) (by omega) (upI : Up V _).size ?_
                      intro v1 w1 hown1 hgrow
                      have hkY : w1.heap[V.heap.size + 1]? = some (.cells y.cells.toArray 44 (0, 0)) := (hgrow.block (V.heap.size + 1) (by simp) (fun h => by have h' := Option.some.inj h; (try simp at h'); (try omega))).trans (alloc_new (by simp))
                      have hu1 : Up V w1 := Up.grown (upI : Up V _) hgrow (fun k' h => by have h' := Option.some.inj h; subst h'; first | exact Nat.le_refl _ | simp)
                      obtain ⟨x1, rfl⟩ := hu1.mk
                      have Hown1 := Lib.hid hown1
                      clear hown1 hgrow hu1
                      refine hK _ _ ?_; clear hK K
                      refine wpAny_ready (rs := [7]) (by kernel_rfl) (by simp) ?_
                      refine AllReady.cons rfl (fun K hK => ?_) ?_
                      · skip
                        refine step_append_own rfl _ _ 22 rfl V.heap.size 44 i0 Ln.zero.val 11 40 Tryz.underlying22 Hi.out Hy0.out Hy1.out Hy2.out rfl (by decide) v1 _ _ rfl Hown1.out ⟨_, 0, none⟩ 1 1 y.cells rfl rfl (row_ln hkY) (fun u h => y.one u h) (by unfold maxLen; omega) (by omega) (upI : Up V _).size ?_
                        intro v2 w2 hown2 hgrow
                        have hu2 : Up V w2 := Up.grown (upI : Up V _) hgrow (fun k' h => owns_row Hown1.out k' h)
                        obtain ⟨x2, rfl⟩ := hu2.mk
                        have Hown2 := Lib.hid hown2
                        clear hown2 hgrow hu2
                        refine hK _ _ ?_; clear hK K
                        refine wpAny_ready (rs := [11]) (by kernel_rfl) (by simp) ?_
                        refine AllReady.cons rfl (fun K hK => ?_) ?_
                        · skip
                          refine step_append_own rfl _ _ 22 rfl V.heap.size 44 i0 Ln.zero.val 11 40 Tryz.underlying22 Hi.out Hy0.out Hy1.out Hy2.out rfl (by decide) v2 _ _ rfl Hown2.out ⟨g, j * 11, none⟩ 0 _ ((M.drop j).flatMap Ln.cells) rfl hl2 (fun t u h => (upI : Up V _).cell_some (hc2' t u h)) (flat_one _) (by unfold maxLen; omega) (by omega) (upI : Up V _).size ?_
                          intro v3 w3 hown3 hgrow
                          have hu3 : Up V w3 := Up.grown (upI : Up V _) hgrow (fun k' h => owns_row Hown2.out k' h)
                          obtain ⟨x3, rfl⟩ := hu3.mk
                          have Hown3 := Lib.hid hown3
                          clear hown3 hgrow hu3
                          refine hK _ _ ?_; clear hK K
                          refine any_take (i := 12) (v := ?v45) rfl (by kernel_rfl) (by kernel_rfl) (by kernel_rfl) (Or.inl ⟨by kernel_rfl, ?hy45⟩) ?rest45
                          case hy45 => (intro w; go_simp; (try with_reducible rfl))
                          refine wpAny_done (by kernel_rfl) ?_ _
                          refine ⟨rfl, ?_⟩
                          go_wp2_with fail
                          go_roundw
                          case rel => exact ⟨k + 1, M.take j ++ y :: M.drop j, by omega, by go_num, Lib.hid (by rw [HMs.out, HI.out]), hlen3, Lib.hid (hfin Hown3.out), upI⟩
                          case measure => simp [intOf]; omega
                        exact AllReady.nil
                      exact AllReady.nil
                    exact AllReady.nil
                  exact AllReady.nil
                exact AllReady.nil
              refine AllReady.cons rfl (fun K hK => ?_) ?_
              · go_simp
                refine hK _ _ ?_; clear hK K
                refine wpAny_ready (rs := [0, 6]) (by kernel_rfl) (by simp) ?_
                refine AllReady.cons rfl (fun K hK => ?_) ?_
                · go_simp
                  refine hK _ _ ?_; clear hK K
                  refine wpAny_ready (rs := [4, 6]) (by kernel_rfl) (by simp) ?_
                  refine AllReady.cons rfl (fun K hK => ?_) ?_
                  · skip
                    refine step_append_own rfl _ _ 22 rfl V.heap.size 44 i0 Ln.zero.val 11 40 Tryz.underlying22 Hi.out Hy0.out Hy1.out Hy2.out rfl (by decide) _ 0 [] rfl (fresh_own V _ (by simp) (by simp)) ⟨g, 0, none⟩ j _ ((M.take j).flatMap Ln.cells) rfl hl1 (fun t u h => (upI : Up V _).cell_some (hc1' t u h)) (flat_one _) (by unfold maxLen; omega) (by omega) (upI : Up V _).size ?_
                    intro v1 w1 hown1 hgrow
                    have hu1 : Up V w1 := Up.grown (upI : Up V _) hgrow (fun k' h => by have h' := Option.some.inj h; subst h'; first | exact Nat.le_refl _ | simp)
                    obtain ⟨x1, rfl⟩ := hu1.mk
                    have Hown1 := Lib.hid hown1
                    clear hown1 hgrow hu1
                    refine hK _ _ ?_; clear hK K
                    refine wpAny_ready (rs := [6]) (by kernel_rfl) (by simp) ?_
                    refine AllReady.cons rfl (fun K hK => ?_) ?_
                    · go_simp
                      refine hK _ _ ?_; clear hK K
                      refine wpAny_ready (rs := [7]) (by kernel_rfl) (by simp) ?_
                      refine AllReady.cons rfl (fun K hK => ?_) ?_
                      · skip
                        refine step_append_own rfl _ _ 22 rfl V.heap.size 44 i0 Ln.zero.val 11 40 Tryz.underlying22 Hi.out Hy0.out Hy1.out Hy2.out rfl (by decide) v1 _ _ rfl (owns_up Hown1.out (upI : Up x1.w _)) ⟨_, 0, none⟩ 1 1 y.cells rfl rfl (ln_at x1.w y _) (fun u h => y.one u h) (by unfold maxLen; omega) (by omega) (upI : Up V _).size ?_
                        intro v2 w2 hown2 hgrow
                        have hu2 : Up V w2 := Up.grown (upI : Up V _) hgrow (fun k' h => owns_row Hown1.out k' h)
                        obtain ⟨x2, rfl⟩ := hu2.mk
                        have Hown2 := Lib.hid hown2
                        clear hown2 hgrow hu2
                        refine hK _ _ ?_; clear hK K
                        refine wpAny_ready (rs := [11]) (by kernel_rfl) (by simp) ?_
                        refine AllReady.cons rfl (fun K hK => ?_) ?_
                        · skip
                          refine step_append_own rfl _ _ 22 rfl V.heap.size 44 i0 Ln.zero.val 11 40 Tryz.underlying22 Hi.out Hy0.out Hy1.out Hy2.out rfl (by decide) v2 _ _ rfl Hown2.out ⟨g, j * 11, none⟩ 0 _ ((M.drop j).flatMap Ln.cells) rfl hl2 (fun t u h => (upI : Up V _).cell_some (hc2' t u h)) (flat_one _) (by unfold maxLen; omega) (by omega) (upI : Up V _).size ?_
                          intro v3 w3 hown3 hgrow
                          have hu3 : Up V w3 := Up.grown (upI : Up V _) hgrow (fun k' h => owns_row Hown2.out k' h)
                          obtain ⟨x3, rfl⟩ := hu3.mk
                          have Hown3 := Lib.hid hown3
                          clear hown3 hgrow hu3
                          refine hK _ _ ?_; clear hK K
                          refine any_take (i := 12) (v := ?v46) rfl (by kernel_rfl) (by kernel_rfl) (by kernel_rfl) (Or.inl ⟨by kernel_rfl, ?hy46⟩) ?rest46
                          case hy46 => (intro w; go_simp; (try with_reducible rfl))
                          refine wpAny_done (by kernel_rfl) ?_ _
                          refine ⟨rfl, ?_⟩
                          go_wp2_with fail
                          go_roundw
                          case rel => exact ⟨k + 1, M.take j ++ y :: M.drop j, by omega, by go_num, Lib.hid (by rw [HMs.out, HI.out]), hlen3, Lib.hid (hfin Hown3.out), upI⟩
                          case measure => simp [intOf]; omega
                        exact AllReady.nil
                      exact AllReady.nil
                    exact AllReady.nil
                  refine AllReady.cons rfl (fun K hK => ?_) ?_
                  · go_simp
                    refine hK _ _ ?_; clear hK K
                    refine wpAny_ready (rs := [4]) (by kernel_rfl) (by simp) ?_
                    refine AllReady.cons rfl (fun K hK => ?_) ?_
                    · skip
                      refine step_append_own rfl _ _ 22 rfl V.heap.size 44 i0 Ln.zero.val 11 40 Tryz.underlying22 Hi.out Hy0.out Hy1.out Hy2.out rfl (by decide) _ 0 [] rfl (owns_up (fresh_own V _ (by simp) (by simp)) (((Up.refl _).alloc _).drew)) ⟨g, 0, none⟩ j _ ((M.take j).flatMap Ln.cells) rfl hl1 (fun t u h => (upI : Up V _).cell_some (hc1' t u h)) (flat_one _) (by unfold maxLen; omega) (by omega) (upI : Up V _).size ?_
                      intro v1 w1 hown1 hgrow
                      have hkY : w1.heap[V.heap.size + 1]? = some (.cells y.cells.toArray 44 (0, 0)) := (hgrow.block (V.heap.size + 1) (by simp) (fun h => by have h' := Option.some.inj h; (try simp at h'); (try omega))).trans (alloc_new (by simp))
                      have hu1 : Up V w1 := Up.grown (upI : Up V _) hgrow (fun k' h => by have h' := Option.some.inj h; subst h'; first | exact Nat.le_refl _ | simp)
                      obtain ⟨x1, rfl⟩ := hu1.mk
                      have Hown1 := Lib.hid hown1
                      clear hown1 hgrow hu1
                      refine hK _ _ ?_; clear hK K
                      refine wpAny_ready (rs := [7]) (by kernel_rfl) (by simp) ?_
                      refine AllReady.cons rfl (fun K hK => ?_) ?_
                      · skip
                        refine step_append_own rfl _ _ 22 rfl V.heap.size 44 i0 Ln.zero.val 11 40 Tryz.underlying22 Hi.out Hy0.out Hy1.out Hy2.out rfl (by decide) v1 _ _ rfl Hown1.out ⟨_, 0, none⟩ 1 1 y.cells rfl rfl (row_ln hkY) (fun u h => y.one u h) (by unfold maxLen; omega) (by omega) (upI : Up V _).size ?_
                        intro v2 w2 hown2 hgrow
                        have hu2 : Up V w2 := Up.grown (upI : Up V _) hgrow (fun k' h => owns_row Hown1.out k' h)
                        obtain ⟨x2, rfl⟩ := hu2.mk
                        have Hown2 := Lib.hid hown2
                        clear hown2 hgrow hu2
                        refine hK _ _ ?_; clear hK K
                        refine wpAny_ready (rs := [11]) (by kernel_rfl) (by simp) ?_
                        refine AllReady.cons rfl (fun K hK => ?_) ?_
                        · skip
                          refine step_append_own rfl _ _ 22 rfl V.heap.size 44 i0 Ln.zero.val 11 40 Tryz.underlying22 Hi.out Hy0.out Hy1.out Hy2.out rfl (by decide) v2 _ _ rfl Hown2.out ⟨g, j * 11, none⟩ 0 _ ((M.drop j).flatMap Ln.cells) rfl hl2 (fun t u h => (upI : Up V _).cell_some (hc2' t u h)) (flat_one _) (by unfold maxLen; omega) (by omega) (upI : Up V _).size ?_
                          intro v3 w3 hown3 hgrow
                          have hu3 : Up V w3 := Up.grown (upI : Up V _) hgrow (fun k' h => owns_row Hown2.out k' h)
                          obtain ⟨x3, rfl⟩ := hu3.mk
                          have Hown3 := Lib.hid hown3
                          clear hown3 hgrow hu3
                          refine hK _ _ ?_; clear hK K
                          refine any_take (i := 12) (v := ?v47) rfl (by kernel_rfl) (by kernel_rfl) (by kernel_rfl) (Or.inl ⟨by kernel_rfl, ?hy47⟩) ?rest47
                          case hy47 => (intro w; go_simp; (try with_reducible rfl))
                          refine wpAny_done (by kernel_rfl) ?_ _
                          refine ⟨rfl, ?_⟩
                          go_wp2_with fail
                          go_roundw
                          case rel => exact ⟨k + 1, M.take j ++ y :: M.drop j, by omega, by go_num, Lib.hid (by rw [HMs.out, HI.out]), hlen3, Lib.hid (hfin Hown3.out), upI⟩
                          case measure => simp [intOf]; omega
                        exact AllReady.nil
                      exact AllReady.nil
                    exact AllReady.nil
                  exact AllReady.nil
                refine AllReady.cons rfl (fun K hK => ?_) ?_
                · go_simp
                  refine hK _ _ ?_; clear hK K
                  refine wpAny_ready (rs := [0]) (by kernel_rfl) (by simp) ?_
                  refine AllReady.cons rfl (fun K hK => ?_) ?_
                  · go_simp
                    refine hK _ _ ?_; clear hK K
                    refine wpAny_ready (rs := [4]) (by kernel_rfl) (by simp) ?_
                    refine AllReady.cons rfl (fun K hK => ?_) ?_
                    · skip
                      refine step_append_own rfl _ _ 22 rfl V.heap.size 44 i0 Ln.zero.val 11 40 Tryz.underlying22 Hi.out Hy0.out Hy1.out Hy2.out rfl (by decide) _ 0 [] rfl (fresh_own (V.alloc (.cells y.cells.toArray 44)) _ (by simp) (by simp)) ⟨g, 0, none⟩ j _ ((M.take j).flatMap Ln.cells) rfl hl1 (fun t u h => (upI : Up V _).cell_some (hc1' t u h)) (flat_one _) (by unfold maxLen; omega) (by omega) (upI : Up V _).size ?_
                      intro v1 w1 hown1 hgrow
                      have hkY : w1.heap[V.heap.size]? = some (.cells y.cells.toArray 44 (0, 0)) := (hgrow.block V.heap.size (by simp; omega) (fun h => by have h' := Option.some.inj h; (try simp at h'); (try omega))).trans ((Below.heap_alloc _ _ _ (by simp)).trans (alloc_new (by simp)))
                      have hu1 : Up V w1 := Up.grown (upI : Up V _) hgrow (fun k' h => by have h' := Option.some.inj h; subst h'; first | exact Nat.le_refl _ | simp)
                      obtain ⟨x1, rfl⟩ := hu1.mk
                      have Hown1 := Lib.hid hown1
                      clear hown1 hgrow hu1
                      refine hK _ _ ?_; clear hK K
                      refine wpAny_ready (rs := [7]) (by kernel_rfl) (by simp) ?_
                      refine AllReady.cons rfl (fun K hK => ?_) ?_
                      · skip
                        refine step_append_own rfl _ _ 22 rfl V.heap.size 44 i0 Ln.zero.val 11 40 Tryz.underlying22 Hi.out Hy0.out Hy1.out Hy2.out rfl (by decide) v1 _ _ rfl Hown1.out ⟨_, 0, none⟩ 1 1 y.cells rfl rfl (row_ln hkY) (fun u h => y.one u h) (by unfold maxLen; omega) (by omega) (upI : Up V _).size ?_
                        intro v2 w2 hown2 hgrow
                        have hu2 : Up V w2 := Up.grown (upI : Up V _) hgrow (fun k' h => owns_row Hown1.out k' h)
                        obtain ⟨x2, rfl⟩ := hu2.mk
                        have Hown2 := Lib.hid hown2
                        clear hown2 hgrow hu2
                        refine hK _ _ ?_; clear hK K
                        refine wpAny_ready (rs := [11]) (by kernel_rfl) (by simp) ?_
                        refine AllReady.cons rfl (fun K hK => ?_) ?_
                        · skip
                          refine step_append_own rfl _ _ 22 rfl V.heap.size 44 i0 Ln.zero.val 11 40 Tryz.underlying22 Hi.out Hy0.out Hy1.out Hy2.out rfl (by decide) v2 _ _ rfl Hown2.out ⟨g, j * 11, none⟩ 0 _ ((M.drop j).flatMap Ln.cells) rfl hl2 (fun t u h => (upI : Up V _).cell_some (hc2' t u h)) (flat_one _) (by unfold maxLen; omega) (by omega) (upI : Up V _).size ?_
                          intro v3 w3 hown3 hgrow
                          have hu3 : Up V w3 := Up.grown (upI : Up V _) hgrow (fun k' h => owns_row Hown2.out k' h)
                          obtain ⟨x3, rfl⟩ := hu3.mk
                          have Hown3 := Lib.hid hown3
                          clear hown3 hgrow hu3
                          refine hK _ _ ?_; clear hK K
                          refine any_take (i := 12) (v := ?v48) rfl (by kernel_rfl) (by kernel_rfl) (by kernel_rfl) (Or.inl ⟨by kernel_rfl, ?hy48⟩) ?rest48
                          case hy48 => (intro w; go_simp; (try with_reducible rfl))
                          refine wpAny_done (by kernel_rfl) ?_ _
                          refine ⟨rfl, ?_⟩
                          go_wp2_with fail
                          go_roundw
                          case rel => exact ⟨k + 1, M.take j ++ y :: M.drop j, by omega, by go_num, Lib.hid (by rw [HMs.out, HI.out]), hlen3, Lib.hid (hfin Hown3.out), upI⟩
                          case measure => simp [intOf]; omega
                        exact AllReady.nil
                      exact AllReady.nil
                    exact AllReady.nil
                  exact AllReady.nil
                exact AllReady.nil
              exact AllReady.nil
    · obtain rfl : k = n := by omega
      go_wp2_with fail
      go_ret
      exact ⟨_, rfl, by rw [HT.out, ← HM.out]; exact Hown.out, hu.mk⟩
end Go.Proofs.YteciigbonaecoaaGreatDoor
