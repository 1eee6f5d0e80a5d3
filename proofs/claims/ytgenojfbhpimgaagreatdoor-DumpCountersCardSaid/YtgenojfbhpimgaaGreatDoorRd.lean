/- The reference's Read of a line, walked. -/
import Derived.Test.YtgenojfbhpimgaaGreatDoorRn
import Derived.Test.YtgenojfbhpimgaaGreatDoorDEx
namespace Go.Ab
open Go.RowKit Go.Proofs.YtgenojfbhpimgaaGreatDoor
def rreadV (s : List UInt8) : Value := match refReadL s with | some l => .tuple #[l.val, .int .i64 0] | none => .tuple #[Ln.zero.val, .int .i64 382]
theorem rreadV_eq (s : List UInt8) : rreadV s = dreadV s := by unfold rreadV dreadV; rw [refRead_eq]; cases readLn s <;> rfl
/-- What is left to be read behind k bytes, of which sp were spaces. -/
theorem spAt_step (s : List UInt8) (k sp : Nat) (b : UInt8) (hk : k < s.length) (hb : s[k] = b) : spAt sp (s.drop k) = if b = 32 then (if sp = 2 then 0 else spAt (sp + 1) (s.drop (k + 1)) + 1) else spAt sp (s.drop (k + 1)) + 1 := by
  rw [drop_at s k hk, hb, spAt]
theorem beginsP_len (w l : List UInt8) : (beginsP w l).1.length ≤ l.length := by
  unfold beginsP
  split
  · show (l.drop _).length ≤ _; rw [List.length_drop]; omega
  · exact Nat.le_refl _
theorem midR_def (kk : List UInt8) (k1 k2 k3 k4 k5 sd : Int) (rest : List UInt8) (h : k1 = kPr kk ∧ k2 = kS kk ∧ k3 = kD kk ∧ k4 = kSp kk ∧ k5 = kDp kk) : midR kk sd rest = if (bestK rest 9).1 == [] then none else if (beginsP assR (beginsP repR (rest.drop (bestK rest 9).1.length)).1).2 && !(beginsP repR (rest.drop (bestK rest 9).1.length)).2 then none else endR k1 k2 k3 k4 k5 sd (bestK rest 9).2 (beginsP repR (rest.drop (bestK rest 9).1.length)).2 (beginsP assR (beginsP repR (rest.drop (bestK rest 9).1.length)).1).2 (beginsP assR (beginsP repR (rest.drop (bestK rest 9).1.length)).1).1 := by
  obtain ⟨rfl, rfl, rfl, rfl, rfl⟩ := h
  rfl
theorem lt_of_heap {w : World} {p : Nat} {o : Obj} (h : w.heap[p]? = some o) : p < w.heap.size := (Array.getElem?_eq_some_iff.1 h).1
theorem bestK_succ (rest : List UInt8) (k : Nat) : bestK rest (k + 1) = if (beginsP (clsOf (k : Int) ++ [32]) rest).2 && decide ((bestK rest k).1.length < (clsOf (k : Int)).length) then (clsOf (k : Int), (k : Int)) else bestK rest k := rfl
theorem bestK_len (rest : List UInt8) : ∀ k, (bestK rest k).1.length ≤ 11
  | 0 => by simp [bestK]
  | k + 1 => by
    rw [bestK]
    split
    · exact cls_length _
    · exact bestK_len rest k
theorem numR_len (l : List UInt8) : (numR l).2.1.length ≤ l.length := by
  cases h : (numR l).2.2 with
  | true =>
    have := congrArg List.length (numR_yes h).1
    rw [List.length_append] at this
    omega
  | false =>
    unfold numR at h ⊢
    cases hn : numP 9223372036854775807 (some l) with
    | mk n o =>
      rw [hn] at h
      cases o with
      | none => exact Nat.le_refl _
      | some r => cases h
theorem rl_all (x : Ln) : x.cells.toArray.all (·.oneCell') = true := Array.all_eq_true_iff_forall_mem.2 (fun u hu => x.one u (by simpa using hu))
theorem up_setRowS {w W : World} {g : Nat} (h : Up w W) (hg : w.heap.size ≤ g) (cs : Array Value) : Up w (W.setRow g cs) := Below.trans h ⟨rfl, rfl, rfl, by simp [World.setRow], fun k hk => setRow_other W g k cs (by omega)⟩
end Go.Ab
namespace Go.Proofs.YtgenojfbhpimgaaGreatDoor
open Go.RowKit Go.Ab
theorem build_rkey (k1 k2 k3 k4 k5 : Int) (w : World) : (Instr.build 50 #[(0, .agg #[.int .u8 k1, .int .u32 k2, .int .u32 k3, .int .u16 k4, .int .u16 k5])]).run Tryz.prog w = .ok (.agg (Ln.mk k1 k2 k3 k4 k5 0 0 false false 0 0).cells.toArray) w := by kernel_rfl
theorem build_rzero (w : World) : (Instr.build 50 #[]).run Tryz.prog w = .ok (.agg Ln.zero.cells.toArray) w := by kernel_rfl
attribute [local go_sem high] build_rkey build_rzero
attribute [local go_sem] mk_get
theorem rlnSize : (Tryz.prog.info? 50).map (·.size) = some 11 := by kernel_rfl
set_option maxHeartbeats 32000000 in
set_option maxRecDepth 100000 in
theorem rread38_any (s : List UInt8) (w : World) (hs : s.length < 4294967281) : Gives Tryz.prog 39 #[.string ⟨s.toArray⟩] w (rreadV s) := by
  unfold Gives
  go_enter Tryz.func39, Tryz.ntmps39
  go_upto_region 1 with fail
  obtain ⟨B, hB⟩ : ∃ B, w.heap.size = B := ⟨_, rfl⟩
  rw [hB]
  refine wp_letter (fun W => UpI w W ∧ w.heap.size ≤ B ∧ B < W.heap.size ∧ W.heap[B]? = some (.cells Ln.zero.cells.toArray 50 (0, 0)))
    ⟨inferInstance, by omega, by rw [World.size_alloc]; omega, alloc_new hB⟩ ?_
  rintro W ⟨uW, hwB, hBW, hrB⟩
  haveI := uW
  haveI : LtSize B W := ⟨hBW⟩
  clear hB
  have hle := spAt_le s 0
  have HrB := Lib.hid hrB
  clear hrB
  go_upto_block 0 with fail
  go_cut [5] (fun v5 wx => v5 = .int .i64 (spAt 0 s : Int) ∧ W = wx)
  case first =>
    go_wp2_with fail
    go_loopw [4, 5] (fun sp i wr => ∃ (k n : Nat), k ≤ s.length ∧ n ≤ 2 ∧ i = .int .i64 (k : Int) ∧ sp = .int .i64 (n : Int) ∧ Hid (k + spAt n (s.drop k) = spAt 0 s) ∧ wr = W) (fun _ i _ => s.length - (intOf i).toNat)
    case atStart => exact ⟨0, 0, by omega, by omega, rfl, rfl, Lib.hid (by simp), rfl⟩
    case round =>
      obtain ⟨k, n, hk, hn, rfl, rfl, HK, rfl⟩ := hrel
      by_cases hlt : k < s.length
      · obtain ⟨b, hb⟩ : ∃ b, s[k] = b := ⟨_, rfl⟩
        have hkl : (k : Int) < (s.length : Int) := by omega
        have k0 : (0 : Int) ≤ (k : Int) := by omega
        have hst := spAt_step s k n b hlt hb
        by_cases h32 : b = 32
        · rw [if_pos h32] at hst
          have c32 : ((b.toNat : Int) == 32) = true := by rw [h32]; rfl
          by_cases h2 : n = 2
          · rw [if_pos h2] at hst
            have HE := Lib.hid (show k = spAt 0 s by have := HK.out; omega)
            subst h2
            clear hst h32 HK
            go_wp2_with fail
            go_meet
            exact ⟨by rw [← HE.out], rfl⟩
          · rw [if_neg h2] at hst
            have HE := Lib.hid (show (k + 1) + spAt (n + 1) (s.drop (k + 1)) = spAt 0 s by have := HK.out; omega)
            have c3 : (((n : Int) + 1) == 3) = false := beq_eq_false_iff_ne.2 (by omega)
            clear hst h32 HK
            go_wp2_with fail
            go_roundw
            case rel => exact ⟨k + 1, n + 1, by omega, by omega, by go_num, by go_num, HE, trivial⟩
            case measure => simp [intOf]; omega
        · rw [if_neg h32] at hst
          have c32 : ((b.toNat : Int) == 32) = false := by
            simp only [beq_eq_false_iff_ne, ne_eq]
            intro h; exact h32 (UInt8.toNat_inj.1 (by simp; omega))
          have HE := Lib.hid (show (k + 1) + spAt n (s.drop (k + 1)) = spAt 0 s by have := HK.out; omega)
          clear hst h32 HK
          go_wp2_with fail
          go_roundw
          case rel => exact ⟨k + 1, n, by omega, by omega, by go_num, rfl, HE, trivial⟩
          case measure => simp [intOf]; omega
      · obtain rfl : k = s.length := by omega
        have HE := Lib.hid (show s.length = spAt 0 s by have := HK.out; rw [List.drop_length] at this; simpa [spAt] using this)
        clear HK
        go_wp2_with fail
        go_meet
        exact ⟨by rw [← HE.out], rfl⟩
  case rest =>
    obtain ⟨rfl, rfl⟩ := hcut
    have hrk : ∀ W, Gives Tryz.prog 73 #[.string ((⟨s.toArray⟩ : ByteArray).extract 0 (spAt 0 s))] W (.tuple #[.agg #[.int .u8 (kv (kvB (s.take (spAt 0 s))) (kPr (s.take (spAt 0 s)))), .int .u32 (kv (kvB (s.take (spAt 0 s))) (kS (s.take (spAt 0 s)))), .int .u32 (kv (kvB (s.take (spAt 0 s))) (kD (s.take (spAt 0 s)))), .int .u16 (kv (kvB (s.take (spAt 0 s))) (kSp (s.take (spAt 0 s)))), .int .u16 (kv (kvB (s.take (spAt 0 s))) (kDp (s.take (spAt 0 s))))], .int .i64 (kvE (kvB (s.take (spAt 0 s))))]) := fun W => by
      rw [ba_take]
      exact (refReadKey_any _ W (by rw [List.length_take]; omega)).cast (kv_eq _)
    have hb1 : ∀ W, Gives Tryz.prog 74 #[.string ((⟨s.toArray⟩ : ByteArray).extract (spAt 0 s) s.length), .string ⟨#[32, 105, 110, 115, 105, 100, 101, 32]⟩] W (.tuple #[.string ⟨(beginsP inR (s.drop (spAt 0 s))).1.toArray⟩, .bool (beginsP inR (s.drop (spAt 0 s))).2]) := fun W => by
      rw [ba_drop]
      exact rbegins_any _ inR W (by rw [List.length_drop]; omega) (by decide)
    have hb2 : ∀ W, Gives Tryz.prog 74 #[.string ((⟨s.toArray⟩ : ByteArray).extract (spAt 0 s) s.length), .string ⟨#[32, 111, 117, 116, 115, 105, 100, 101, 32]⟩] W (.tuple #[.string ⟨(beginsP outR (s.drop (spAt 0 s))).1.toArray⟩, .bool (beginsP outR (s.drop (spAt 0 s))).2]) := fun W => by
      rw [ba_drop]
      exact rbegins_any _ outR W (by rw [List.length_drop]; omega) (by decide)
    have HR := Lib.hid (show refReadL s = if kvB (s.take (spAt 0 s)) then (if (beginsP inR (s.drop (spAt 0 s))).2 then midR (s.take (spAt 0 s)) 0 (beginsP inR (s.drop (spAt 0 s))).1 else if (beginsP outR (s.drop (spAt 0 s))).2 then midR (s.take (spAt 0 s)) 1 (beginsP outR (s.drop (spAt 0 s))).1 else none) else none from rfl)
    have hl1 := beginsP_len inR (s.drop (spAt 0 s))
    have hl2 := beginsP_len outR (s.drop (spAt 0 s))
    have hld : (s.drop (spAt 0 s)).length ≤ s.length := by rw [List.length_drop]; omega
    have HKB := Lib.hid (kv_bounds (s.take (spAt 0 s)))
    generalize beginsP inR (s.drop (spAt 0 s)) = q1 at *
    generalize beginsP outR (s.drop (spAt 0 s)) = q2 at *
    obtain ⟨r1, c1⟩ := q1
    obtain ⟨r2, c2⟩ := q2
    simp only at hb1 hb2 hl1 hl2
    generalize s.drop (spAt 0 s) = D at *
    generalize spAt 0 s = K at *
    generalize s.take K = kk at *
    have hKl : (K : Int) ≤ (s.length : Int) := by omega
    have hK0 : (0 : Int) ≤ (K : Int) := by omega
    cases hk : kvB kk
    · rw [hk] at hrk HR
      simp only [kv, kvE, Bool.false_eq_true, if_false] at hrk
      have HN := Lib.hid (show refReadL s = none by rw [HR.out]; rfl)
      clear HR hb1 hb2 hk HKB
      go_upto_region 8 with (go_at_call 73; refine (hrk _).mono ?_; rintro e w' ⟨rfl, xk, rfl⟩)
      refine wp_letter (fun V => UpI W V) inferInstance ?_
      intro V uV
      haveI := uV
      haveI : LtSize B V := ⟨Nat.lt_of_lt_of_le hBW uV.up.size⟩
      have hrow0 : V.heap[B]? = some (.cells Ln.zero.cells.toArray 50 (0, 0)) := ((upI : Up W V).block B hBW).trans HrB.out
      have hz4 := setRow_heap _ B _ Ln.zero.cells.toArray _ _ hrow0
      go_wp2_with (refine wpList_store_row rfl 50 _ _ rfl B Ln.zero.cells.toArray rfl rfl 50 Ln.zero.cells.toArray hrow0 rlnSize rfl (rl_all _) ?_)
      refine bodyPost_ret (v := .tuple #[.agg Ln.zero.cells.toArray, .int .i64 382]) (by simp [results, Tryz.results39, asAddr, run_loadVar_row _ B 50 50 Ln.zero.cells.toArray (0, 0) _ hz4 Tryz.underlying50 rfl rlnSize]) rfl ⟨by unfold rreadV; rw [HN.out]; rfl, ⟨⟨_, up_setRowS (uW.up.trans upI) hwB _⟩, rfl⟩⟩
    · rw [hk] at hrk HR HKB
      simp only [kv, kvE, if_true] at hrk HR HKB
      obtain ⟨k1, h1⟩ : ∃ k1, kPr kk = k1 := ⟨_, rfl⟩
      obtain ⟨k2, h2⟩ : ∃ k2, kS kk = k2 := ⟨_, rfl⟩
      obtain ⟨k3, h3⟩ : ∃ k3, kD kk = k3 := ⟨_, rfl⟩
      obtain ⟨k4, h4⟩ : ∃ k4, kSp kk = k4 := ⟨_, rfl⟩
      obtain ⟨k5, h5⟩ : ∃ k5, kDp kk = k5 := ⟨_, rfl⟩
      have HMID := Lib.hid (show k1 = kPr kk ∧ k2 = kS kk ∧ k3 = kD kk ∧ k4 = kSp kk ∧ k5 = kDp kk from ⟨h1.symm, h2.symm, h3.symm, h4.symm, h5.symm⟩)
      rw [h1, h2, h3, h4, h5] at hrk HKB
      clear h1 h2 h3 h4 h5
      go_upto_region 11 with (first
        | (refine wpList_store_row rfl 50 _ _ rfl _ (Ln.mk k1 k2 k3 k4 k5 0 0 false false 0 0).cells.toArray rfl rfl 50 _ (alloc_new rfl) rlnSize rfl (rl_all _) ?_)
        | (go_at_call 73; refine (hrk _).mono ?_; rintro e w' ⟨rfl, xk, rfl⟩))
      obtain ⟨P, hP⟩ : ∃ P, xk.w.heap.size + 1 = P := ⟨_, rfl⟩
      rw [hP]
      have hWP : W.heap.size ≤ P := by have := xk.up.size; omega
      refine wp_letter (fun V => UpI W V ∧ V.heap[P]? = some (.cells (Ln.mk k1 k2 k3 k4 k5 0 0 false false 0 0).cells.toArray 50 (0, 0)))
        ⟨inferInstance, alloc_new (by rw [World.size_alloc, hP])⟩ ?_
      rintro V ⟨uV, hrP⟩
      haveI := uV
      have hmid := fun sd rest => midR_def kk k1 k2 k3 k4 k5 sd rest HMID.out
      clear hP hrk
      go_upto_region 12 with (go_at_call 74; refine (hb1 _).mono ?_; rintro e w' ⟨rfl, x1, rfl⟩)
      go_upto_if 54 with fail
      go_cut [9] (fun v9 wx => ∃ (sd : Int) (rest : List UInt8), v9 = .string ⟨rest.toArray⟩ ∧ Hid (refReadL s = midR kk sd rest) ∧ rest.length ≤ s.length ∧ UpI W wx ∧ wx.heap[P]? = some (.cells (Ln.mk k1 k2 k3 k4 k5 sd 0 false false 0 0).cells.toArray 50 (0, 0)))
      case first =>
        cases c1
        · have hnb : P ≠ B := by omega
          cases c2
          · have HN := Lib.hid (show refReadL s = none by rw [HR.out]; rfl)
            clear HR hb1 hmid
            go_upto_region 15 with (go_at_call 74; refine (hb2 _).mono ?_; rintro e w' ⟨rfl, x2, rfl⟩)
            refine wp_letter (fun V => UpI W V) inferInstance ?_
            intro V3 uV3
            haveI := uV3
            have hrow0 : V3.heap[B]? = some (.cells Ln.zero.cells.toArray 50 (0, 0)) := ((upI : Up W V3).block B hBW).trans HrB.out
            have hz4 := setRow_heap _ B _ Ln.zero.cells.toArray _ _ hrow0
            haveI : LtSize B V3 := ⟨Nat.lt_of_lt_of_le hBW (upI : Up W V3).size⟩
            go_wp2_with (refine wpList_store_row rfl 50 _ _ rfl B Ln.zero.cells.toArray rfl rfl 50 Ln.zero.cells.toArray hrow0 rlnSize rfl (rl_all _) ?_)
            refine bodyPost_ret (v := .tuple #[.agg Ln.zero.cells.toArray, .int .i64 382]) (by simp [results, Tryz.results39, asAddr, run_loadVar_row _ B 50 50 Ln.zero.cells.toArray (0, 0) _ hz4 Tryz.underlying50 rfl rlnSize]) rfl ⟨by unfold rreadV; rw [HN.out]; rfl, ⟨⟨_, up_setRowS (uW.up.trans upI) hwB _⟩, rfl⟩⟩
          · have HM := Lib.hid (show refReadL s = midR kk 1 r2 by rw [HR.out]; rfl)
            clear HR hb1 hmid
            go_upto_region 16 with (go_at_call 74; refine (hb2 _).mono ?_; rintro e w' ⟨rfl, x2, rfl⟩)
            have hrP3 : x2.w.heap[P]? = some (.cells (Ln.mk k1 k2 k3 k4 k5 0 0 false false 0 0).cells.toArray 50 (0, 0)) := ((upI : Up V _).block P (lt_of_heap hrP)).trans hrP
            refine wp_letter (fun V3 => UpI W V3 ∧ V3.heap[P]? = some (.cells (Ln.mk k1 k2 k3 k4 k5 0 0 false false 0 0).cells.toArray 50 (0, 0))) ⟨inferInstance, hrP3⟩ ?_
            rintro V3 ⟨uV3, hr3⟩
            haveI := uV3
            have c5 : V3.cell? ⟨P, 5, none⟩ = some (.int .u8 0) := by rw [cell_of_row V3 P 5 _ _ _ hr3]; rfl
            have f5 : V3.frozen? ⟨P, 5, none⟩ = false := frozen_of_row V3 P 5 _ _ hr3
            have Hr3 := Lib.hid hr3
            clear hr3 hrP3
            go_wp2_with fail
            go_meet
            exact ⟨1, r2, rfl, HM, by omega, ⟨(upI : Up W V3).setCell hWP _⟩, by rw [heap_setCell_same V3 P 5 _ _ _ Hr3.out]; rfl⟩
        · have HM := Lib.hid (show refReadL s = midR kk 0 r1 by rw [HR.out]; rfl)
          clear HR hb1 hb2 hmid
          go_wp2_with fail
          go_meet
          exact ⟨0, r1, rfl, HM, by omega, inferInstance, ((upI : Up V _).block P (lt_of_heap hrP)).trans hrP⟩
      case rest =>
        clear hb1 hb2 HR hrP
        obtain ⟨sd, rest, rfl, HM, hrl, uV4, hr4⟩ := hcut
        haveI := uV4
        have hmid := midR_def kk k1 k2 k3 k4 k5 sd rest HMID.out
        rw [HM.out.symm] at hmid
        have HX := Lib.hid hmid
        clear hmid HMID
        go_wp2_with fail
        go_loopw [11, 12] (fun v11 v12 wr => ∃ i : Nat, i ≤ 9 ∧ v12 = .int .i64 (i : Int) ∧ v11 = .string ⟨(bestK rest i).1.toArray⟩ ∧ UpI W wr ∧ wr.heap[P]? = some (.cells (Ln.mk k1 k2 k3 k4 k5 sd (bestK rest i).2 false false 0 0).cells.toArray 50 (0, 0))) (fun _ i _ => 9 - (intOf i).toNat)
        case atStart => exact ⟨0, by omega, rfl, rfl, inferInstance, hr4⟩
        case round =>
          clear hr4 uV4
          obtain ⟨i, hi, rfl, rfl, uR, hrr⟩ := hrel
          haveI := uR
          by_cases hlt : i < 9
          · have hlt' : (i : Int) < 9 := by omega
            have i0 : (0 : Int) ≤ (i : Int) := by omega
            have hn := fun W n h => rnames_any W i hlt n h
            have lC := cls_length (i : Int)
            have hbg : ∀ W, Gives Tryz.prog 74 #[.string ⟨rest.toArray⟩, .string (⟨(clsOf (i : Int)).toArray⟩ ++ ⟨#[32]⟩)] W (.tuple #[.string ⟨(beginsP (clsOf (i : Int) ++ [32]) rest).1.toArray⟩, .bool (beginsP (clsOf (i : Int) ++ [32]) rest).2]) := fun W => by
              rw [show (⟨#[32]⟩ : ByteArray) = ⟨([32] : List UInt8).toArray⟩ from rfl, ba_app]
              exact rbegins_any _ _ W (by omega) (by rw [List.length_append]; simp; omega)
            have hk1 := bestK_succ rest i
            have c6 : wr.cell? ⟨P, 6, none⟩ = some (.int .u8 (bestK rest i).2) := by rw [cell_of_row wr P 6 _ _ _ hrr]; rfl
            have f6 : wr.frozen? ⟨P, 6, none⟩ = false := frozen_of_row wr P 6 _ _ hrr
            haveI : LtSize P wr := ⟨lt_of_heap hrr⟩
            have Hrr := Lib.hid hrr
            have hbl := bestK_len rest i
            have hm256 : (i : Int) % 256 = (i : Int) := by omega
            clear hrr
            generalize beginsP (clsOf (i : Int) ++ [32]) rest = q at *
            obtain ⟨r5, cb⟩ := q
            simp only at hbg hk1
            generalize bestK rest i = bk at *
            obtain ⟨bs, bc⟩ := bk
            simp only at hk1 Hrr c6 hbl
            generalize hcls : clsOf (i : Int) = C at *
            cases cb
            · rw [Bool.false_and, if_neg (by simp)] at hk1
              have HK1 := Lib.hid hk1
              clear hk1
              go_wp2_with (first
                | (go_at_call 75; refine (hn _ _ inferInstance).mono ?_; rintro e w' ⟨rfl, xn, hcn, hln, rfl⟩)
                | (go_at_call 74; refine (hbg _).mono ?_; rintro e w' ⟨rfl, xb, rfl⟩))
              go_roundw
              case rel => exact ⟨i + 1, by omega, by go_num, by rw [HK1.out], inferInstance, by rw [HK1.out]; exact ((upI : Up wr _).block P (lt_of_heap Hrr.out)).trans Hrr.out⟩
              case measure => simp [intOf]; omega
            · rw [Bool.true_and] at hk1
              cases hlen : decide (bs.length < C.length)
              · rw [hlen, if_neg (by simp)] at hk1
                have HK1 := Lib.hid hk1
                clear hk1
                go_wp2_with (first
                  | (go_at_call 75; refine (hn _ _ inferInstance).mono ?_; rintro e w' ⟨rfl, xn, hcn, hln, rfl⟩)
                  | (go_at_call 74; refine (hbg _).mono ?_; rintro e w' ⟨rfl, xb, rfl⟩))
                go_roundw
                case rel => exact ⟨i + 1, by omega, by go_num, by rw [HK1.out], inferInstance, by rw [HK1.out]; exact ((upI : Up wr _).block P (lt_of_heap Hrr.out)).trans Hrr.out⟩
                case measure => simp [intOf]; omega
              · rw [hlen, if_pos rfl] at hk1
                have HK1 := Lib.hid hk1
                clear hk1
                go_upto_region 23 with (first
                  | (go_at_call 75; refine (hn _ _ inferInstance).mono ?_; rintro e w' ⟨rfl, xn, hcn, hln, rfl⟩)
                  | (go_at_call 74; refine (hbg _).mono ?_; rintro e w' ⟨rfl, xb, rfl⟩))
                refine wp_letter (fun V => UpI W V ∧ V.heap[P]? = some (.cells (Ln.mk k1 k2 k3 k4 k5 sd bc false false 0 0).cells.toArray 50 (0, 0))) ⟨inferInstance, ((upI : Up wr _).block P (lt_of_heap Hrr.out)).trans Hrr.out⟩ ?_
                rintro V5 ⟨uV5, hr5⟩
                haveI := uV5
                have d6 : V5.cell? ⟨P, 6, none⟩ = some (.int .u8 bc) := by rw [cell_of_row V5 P 6 _ _ _ hr5]; rfl
                have g6 : V5.frozen? ⟨P, 6, none⟩ = false := frozen_of_row V5 P 6 _ _ hr5
                haveI : LtSize P V5 := ⟨lt_of_heap hr5⟩
                have Hr5 := Lib.hid hr5
                clear hr5 Hrr
                go_upto_region 20 with (go_at_call 75; refine (hn _ _ inferInstance).mono ?_; rintro e w' ⟨rfl, xn, hcn, hln, rfl⟩)
                refine wp_letter (fun V => UpI W V ∧ V.heap[P]? = some (.cells (Ln.mk k1 k2 k3 k4 k5 sd (i : Int) false false 0 0).cells.toArray 50 (0, 0))) ⟨⟨(upI : Up W xn.w).setCell hWP _⟩, by rw [heap_setCell_same xn.w P 6 _ _ _ (((upI : Up V5 xn.w).block P (lt_of_heap Hr5.out)).trans Hr5.out)]; rfl⟩ ?_
                rintro V6 ⟨uV6, hr6⟩
                haveI := uV6
                have Hr6 := Lib.hid hr6
                clear hr6 Hr5
                go_wp2_with fail
                go_roundw
                case rel => exact ⟨i + 1, by omega, by go_num, by rw [HK1.out], inferInstance, by rw [HK1.out]; exact Hr6.out⟩
                case measure => simp [intOf]; omega
          · obtain rfl : i = 9 := by omega
            have hbk := bestK_yes rest 9
            have hbl := bestK_len rest 9
            have hb9 := bestK_bd rest 9
            generalize bestK rest 9 = bk at *
            obtain ⟨bs, bc⟩ := bk
            simp only at HX hbk hbl hrr hb9
            haveI : LtSize P wr := ⟨lt_of_heap hrr⟩
            cases hbs : (bs == [])
            · have hne : bs ≠ [] := fun e => by rw [e] at hbs; exact absurd hbs (by decide)
              obtain ⟨i', hi', e1, e2⟩ := hbk hne
              have e3 := beginsP_yes e2
              have hbsl : bs.length ≤ rest.length := by
                rw [(Prod.mk.inj e1).1]; rw [e3]; simp
              have hx := HX.out
              rw [hbs, if_neg (by simp)] at hx
              clear hbk e1 e2 e3 hne hi' HX
              have hq1 : ∀ W, Gives Tryz.prog 74 #[.string ((⟨rest.toArray⟩ : ByteArray).extract bs.length rest.length), .string ⟨#[32, 114, 101, 112, 108, 105, 101, 100]⟩] W (.tuple #[.string ⟨(beginsP repR (rest.drop bs.length)).1.toArray⟩, .bool (beginsP repR (rest.drop bs.length)).2]) := fun W => by
                rw [ba_drop]
                exact rbegins_any _ repR W (by rw [List.length_drop]; omega) (by decide)
              have hq1l := beginsP_len repR (rest.drop bs.length)
              rw [List.length_drop] at hq1l
              generalize beginsP repR (rest.drop bs.length) = q1 at *
              obtain ⟨t1, rp⟩ := q1
              simp only at hq1 hq1l hx
              have hq2 : ∀ W, Gives Tryz.prog 74 #[.string ⟨t1.toArray⟩, .string ⟨#[32, 97, 115, 115, 117, 114, 101, 100]⟩] W (.tuple #[.string ⟨(beginsP assR t1).1.toArray⟩, .bool (beginsP assR t1).2]) := fun W => rbegins_any _ assR W (by omega) (by decide)
              have hq2l := beginsP_len assR t1
              generalize beginsP assR t1 = q2 at *
              obtain ⟨t2, ss⟩ := q2
              simp only at hq2 hq2l hx
              have k0 : (0 : Int) ≤ (bs.length : Int) := by omega
              have k1' : (bs.length : Int) ≤ (rest.length : Int) := by omega
              have HRR := Lib.hid hrr
              have Hx := Lib.hid hx
              clear hrr hx
              go_upto_region 27 with fail
              refine wp_letter (fun V => UpI W V ∧ V.heap[P]? = some (.cells (Ln.mk k1 k2 k3 k4 k5 sd bc false false 0 0).cells.toArray 50 (0, 0))) ⟨inferInstance, ((upI : Up wr _).block P (lt_of_heap HRR.out)).trans HRR.out⟩ ?_
              rintro V7 ⟨uV7, hr7⟩
              haveI := uV7
              haveI : LtSize P V7 := ⟨lt_of_heap hr7⟩
              have c7 : V7.cell? ⟨P, 7, none⟩ = some (.bool false) := by rw [cell_of_row V7 P 7 _ _ _ hr7]; rfl
              have f7 : V7.frozen? ⟨P, 7, none⟩ = false := frozen_of_row V7 P 7 _ _ hr7
              have Hr7 := Lib.hid hr7
              clear hr7 HRR
              go_upto_region 28 with (go_at_call 74; refine (hq1 _).mono ?_; rintro e w' ⟨rfl, y1, rfl⟩)
              refine wp_letter (fun V => UpI W V ∧ V.heap[P]? = some (.cells (Ln.mk k1 k2 k3 k4 k5 sd bc rp false 0 0).cells.toArray 50 (0, 0))) ⟨⟨(upI : Up W y1.w).setCell hWP _⟩, by rw [heap_setCell_same y1.w P 7 _ _ _ ((y1.up.block P (lt_of_heap Hr7.out)).trans Hr7.out)]; rfl⟩ ?_
              rintro V8 ⟨uV8, hr8⟩
              haveI := uV8
              haveI : LtSize P V8 := ⟨lt_of_heap hr8⟩
              have c8 : V8.cell? ⟨P, 8, none⟩ = some (.bool false) := by rw [cell_of_row V8 P 8 _ _ _ hr8]; rfl
              have f8 : V8.frozen? ⟨P, 8, none⟩ = false := frozen_of_row V8 P 8 _ _ hr8
              have Hr8 := Lib.hid hr8
              clear hr8 Hr7 c7 f7
              go_upto_region 29 with (go_at_call 74; refine (hq2 _).mono ?_; rintro e w' ⟨rfl, y2, rfl⟩)
              refine wp_letter (fun V => UpI W V ∧ V.heap[P]? = some (.cells (Ln.mk k1 k2 k3 k4 k5 sd bc rp ss 0 0).cells.toArray 50 (0, 0))) ⟨⟨(upI : Up W y2.w).setCell hWP _⟩, by rw [heap_setCell_same y2.w P 8 _ _ _ ((y2.up.block P (lt_of_heap Hr8.out)).trans Hr8.out)]; rfl⟩ ?_
              rintro V9 ⟨uV9, hr9⟩
              haveI := uV9
              haveI : LtSize P V9 := ⟨lt_of_heap hr9⟩
              have c7 : V9.cell? ⟨P, 7, none⟩ = some (.bool rp) := by rw [cell_of_row V9 P 7 _ _ _ hr9]; rfl
              have c8 : V9.cell? ⟨P, 8, none⟩ = some (.bool ss) := by rw [cell_of_row V9 P 8 _ _ _ hr9]; rfl
              have Hr9 := Lib.hid hr9
              clear hr9 Hr8 f8 hq1 hq2
              go_cut [123] (fun v wx => v = .bool (ss && !rp) ∧ V9 = wx)
              case first =>
                cases ss <;> cases rp
                all_goals
                  go_wp2_with fail
                  go_meet
                  exact ⟨rfl, rfl⟩
              case rest =>
                obtain ⟨rfl, rfl⟩ := hcut
                cases hrs : (ss && !rp)
                · have hd1 : ∀ W, Gives Tryz.prog 74 #[.string ⟨t2.toArray⟩, .string ⟨#[32, 100, 101, 97, 100, 108, 105, 110, 101, 32]⟩] W (.tuple #[.string ⟨(beginsP deadR t2).1.toArray⟩, .bool (beginsP deadR t2).2]) := fun W => rbegins_any _ deadR W (by omega) (by decide)
                  have hd1l := beginsP_len deadR t2
                  have hx := Hx.out
                  rw [hrs, if_neg (by simp)] at hx
                  unfold endR at hx
                  simp only at hx
                  generalize beginsP deadR t2 = q1 at *
                  obtain ⟨t3, c4⟩ := q1
                  simp only at hd1 hd1l hx
                  have hm1 : ∀ W, Gives Tryz.prog 76 #[.string ⟨t3.toArray⟩] W (.tuple #[.int .i64 (numR t3).1, .string ⟨(numR t3).2.1.toArray⟩, .bool (numR t3).2.2]) := fun W => rnumber_any _ W (by omega)
                  have hm1l := numR_len t3
                  have hm1b := numR_bd t3
                  generalize numR t3 = q2 at *
                  obtain ⟨n5, t4, c5⟩ := q2
                  simp only at hm1 hm1l hx hm1b
                  have hd2 : ∀ W, Gives Tryz.prog 74 #[.string ⟨t4.toArray⟩, .string ⟨#[32, 115, 101, 101, 110, 32]⟩] W (.tuple #[.string ⟨(beginsP seenR t4).1.toArray⟩, .bool (beginsP seenR t4).2]) := fun W => rbegins_any _ seenR W (by omega) (by decide)
                  have hd2l := beginsP_len seenR t4
                  generalize beginsP seenR t4 = q3 at *
                  obtain ⟨t5, c6⟩ := q3
                  simp only at hd2 hd2l hx
                  have hm2 : ∀ W, Gives Tryz.prog 76 #[.string ⟨t5.toArray⟩] W (.tuple #[.int .i64 (numR t5).1, .string ⟨(numR t5).2.1.toArray⟩, .bool (numR t5).2.2]) := fun W => rnumber_any _ W (by omega)
                  have hm2l := numR_len t5
                  have hm2b := numR_bd t5
                  generalize numR t5 = q4 at *
                  obtain ⟨n7, t6, c7'⟩ := q4
                  simp only at hm2 hm2l hx hm2b
                  have Hx2 := Lib.hid hx
                  clear hx Hx
                  cases c4
                  · have HN0 := Lib.hid trivial
                    clear HN0
                    have HN := Lib.hid (show refReadL s = none by rw [Hx2.out]; rfl)
                    clear Hx2
                    go_upto_region 36 with (first
                      | (go_at_call 76; ((first | with_reducible refine (hm1 _).mono ?_ | with_reducible refine (hm2 _).mono ?_)); rintro e w' ⟨rfl, m1, rfl⟩)
                      | (go_at_call 74; ((first | with_reducible refine (hd1 _).mono ?_ | with_reducible refine (hd2 _).mono ?_)); rintro e w' ⟨rfl, m2, rfl⟩))
                    refine wp_letter (fun V => UpI W V) inferInstance ?_
                    intro VA uVA
                    haveI := uVA
                    have hrow0 : VA.heap[B]? = some (.cells Ln.zero.cells.toArray 50 (0, 0)) := ((upI : Up W VA).block B hBW).trans HrB.out
                    have hz4 := setRow_heap _ B _ Ln.zero.cells.toArray _ _ hrow0
                    haveI : LtSize B VA := ⟨Nat.lt_of_lt_of_le hBW (upI : Up W VA).size⟩
                    go_wp2_with (refine wpList_store_row rfl 50 _ _ rfl B Ln.zero.cells.toArray rfl rfl 50 Ln.zero.cells.toArray hrow0 rlnSize rfl (rl_all _) ?_)
                    refine bodyPost_ret (v := .tuple #[.agg Ln.zero.cells.toArray, .int .i64 382]) (by simp [results, Tryz.results39, asAddr, run_loadVar_row _ B 50 50 Ln.zero.cells.toArray (0, 0) _ hz4 Tryz.underlying50 rfl rlnSize]) rfl ⟨by unfold rreadV; rw [HN.out]; rfl, ⟨⟨_, up_setRowS (uW.up.trans upI) hwB _⟩, rfl⟩⟩
                  ·
                    cases c5
                    · have HN0 := Lib.hid trivial
                      clear HN0
                      have HN := Lib.hid (show refReadL s = none by rw [Hx2.out]; rfl)
                      clear Hx2
                      go_upto_region 36 with (first
                        | (go_at_call 76; ((first | with_reducible refine (hm1 _).mono ?_ | with_reducible refine (hm2 _).mono ?_)); rintro e w' ⟨rfl, m1, rfl⟩)
                        | (go_at_call 74; ((first | with_reducible refine (hd1 _).mono ?_ | with_reducible refine (hd2 _).mono ?_)); rintro e w' ⟨rfl, m2, rfl⟩))
                      refine wp_letter (fun V => UpI W V) inferInstance ?_
                      intro VA uVA
                      haveI := uVA
                      have hrow0 : VA.heap[B]? = some (.cells Ln.zero.cells.toArray 50 (0, 0)) := ((upI : Up W VA).block B hBW).trans HrB.out
                      have hz4 := setRow_heap _ B _ Ln.zero.cells.toArray _ _ hrow0
                      haveI : LtSize B VA := ⟨Nat.lt_of_lt_of_le hBW (upI : Up W VA).size⟩
                      go_wp2_with (refine wpList_store_row rfl 50 _ _ rfl B Ln.zero.cells.toArray rfl rfl 50 Ln.zero.cells.toArray hrow0 rlnSize rfl (rl_all _) ?_)
                      refine bodyPost_ret (v := .tuple #[.agg Ln.zero.cells.toArray, .int .i64 382]) (by simp [results, Tryz.results39, asAddr, run_loadVar_row _ B 50 50 Ln.zero.cells.toArray (0, 0) _ hz4 Tryz.underlying50 rfl rlnSize]) rfl ⟨by unfold rreadV; rw [HN.out]; rfl, ⟨⟨_, up_setRowS (uW.up.trans upI) hwB _⟩, rfl⟩⟩
                    ·
                      cases c6
                      · have HN0 := Lib.hid trivial
                        clear HN0
                        have HN := Lib.hid (show refReadL s = none by rw [Hx2.out]; rfl)
                        clear Hx2
                        go_upto_region 36 with (first
                          | (go_at_call 76; ((first | with_reducible refine (hm1 _).mono ?_ | with_reducible refine (hm2 _).mono ?_)); rintro e w' ⟨rfl, m1, rfl⟩)
                          | (go_at_call 74; ((first | with_reducible refine (hd1 _).mono ?_ | with_reducible refine (hd2 _).mono ?_)); rintro e w' ⟨rfl, m2, rfl⟩))
                        refine wp_letter (fun V => UpI W V) inferInstance ?_
                        intro VA uVA
                        haveI := uVA
                        have hrow0 : VA.heap[B]? = some (.cells Ln.zero.cells.toArray 50 (0, 0)) := ((upI : Up W VA).block B hBW).trans HrB.out
                        have hz4 := setRow_heap _ B _ Ln.zero.cells.toArray _ _ hrow0
                        haveI : LtSize B VA := ⟨Nat.lt_of_lt_of_le hBW (upI : Up W VA).size⟩
                        go_wp2_with (refine wpList_store_row rfl 50 _ _ rfl B Ln.zero.cells.toArray rfl rfl 50 Ln.zero.cells.toArray hrow0 rlnSize rfl (rl_all _) ?_)
                        refine bodyPost_ret (v := .tuple #[.agg Ln.zero.cells.toArray, .int .i64 382]) (by simp [results, Tryz.results39, asAddr, run_loadVar_row _ B 50 50 Ln.zero.cells.toArray (0, 0) _ hz4 Tryz.underlying50 rfl rlnSize]) rfl ⟨by unfold rreadV; rw [HN.out]; rfl, ⟨⟨_, up_setRowS (uW.up.trans upI) hwB _⟩, rfl⟩⟩
                      ·
                        cases c7'
                        · have HN0 := Lib.hid trivial
                          clear HN0
                          have HN := Lib.hid (show refReadL s = none by rw [Hx2.out]; rfl)
                          clear Hx2
                          go_upto_region 36 with (first
                            | (go_at_call 76; ((first | with_reducible refine (hm1 _).mono ?_ | with_reducible refine (hm2 _).mono ?_)); rintro e w' ⟨rfl, m1, rfl⟩)
                            | (go_at_call 74; ((first | with_reducible refine (hd1 _).mono ?_ | with_reducible refine (hd2 _).mono ?_)); rintro e w' ⟨rfl, m2, rfl⟩))
                          refine wp_letter (fun V => UpI W V) inferInstance ?_
                          intro VA uVA
                          haveI := uVA
                          have hrow0 : VA.heap[B]? = some (.cells Ln.zero.cells.toArray 50 (0, 0)) := ((upI : Up W VA).block B hBW).trans HrB.out
                          have hz4 := setRow_heap _ B _ Ln.zero.cells.toArray _ _ hrow0
                          haveI : LtSize B VA := ⟨Nat.lt_of_lt_of_le hBW (upI : Up W VA).size⟩
                          go_wp2_with (refine wpList_store_row rfl 50 _ _ rfl B Ln.zero.cells.toArray rfl rfl 50 Ln.zero.cells.toArray hrow0 rlnSize rfl (rl_all _) ?_)
                          refine bodyPost_ret (v := .tuple #[.agg Ln.zero.cells.toArray, .int .i64 382]) (by simp [results, Tryz.results39, asAddr, run_loadVar_row _ B 50 50 Ln.zero.cells.toArray (0, 0) _ hz4 Tryz.underlying50 rfl rlnSize]) rfl ⟨by unfold rreadV; rw [HN.out]; rfl, ⟨⟨_, up_setRowS (uW.up.trans upI) hwB _⟩, rfl⟩⟩
                        ·
                          cases h6 : (t6 == [])
                          · have hx2 := Hx2.out
                            rw [h6] at hx2
                            clear Hx2
                            have Hx2 := Lib.hid hx2
                            clear hx2
                            have HN := Lib.hid (show refReadL s = none by rw [Hx2.out]; rfl)
                            clear Hx2
                            go_upto_region 36 with (first
                              | (go_at_call 76; ((first | with_reducible refine (hm1 _).mono ?_ | with_reducible refine (hm2 _).mono ?_)); rintro e w' ⟨rfl, m1, rfl⟩)
                              | (go_at_call 74; ((first | with_reducible refine (hd1 _).mono ?_ | with_reducible refine (hd2 _).mono ?_)); rintro e w' ⟨rfl, m2, rfl⟩))
                            refine wp_letter (fun V => UpI W V) inferInstance ?_
                            intro VA uVA
                            haveI := uVA
                            have hrow0 : VA.heap[B]? = some (.cells Ln.zero.cells.toArray 50 (0, 0)) := ((upI : Up W VA).block B hBW).trans HrB.out
                            have hz4 := setRow_heap _ B _ Ln.zero.cells.toArray _ _ hrow0
                            haveI : LtSize B VA := ⟨Nat.lt_of_lt_of_le hBW (upI : Up W VA).size⟩
                            go_wp2_with (refine wpList_store_row rfl 50 _ _ rfl B Ln.zero.cells.toArray rfl rfl 50 Ln.zero.cells.toArray hrow0 rlnSize rfl (rl_all _) ?_)
                            refine bodyPost_ret (v := .tuple #[.agg Ln.zero.cells.toArray, .int .i64 382]) (by simp [results, Tryz.results39, asAddr, run_loadVar_row _ B 50 50 Ln.zero.cells.toArray (0, 0) _ hz4 Tryz.underlying50 rfl rlnSize]) rfl ⟨by unfold rreadV; rw [HN.out]; rfl, ⟨⟨_, up_setRowS (uW.up.trans upI) hwB _⟩, rfl⟩⟩
                          · obtain rfl : t6 = [] := by simpa using h6
                            have HY := Lib.hid (show refReadL s = some (Ln.mk k1 k2 k3 k4 k5 sd bc rp ss n5 n7) by rw [Hx2.out]; rfl)
                            clear Hx2 h6
                            go_upto_region 37 with (first
                              | (go_at_call 76; ((first | with_reducible refine (hm1 _).mono ?_ | with_reducible refine (hm2 _).mono ?_)); rintro e w' ⟨rfl, m1, rfl⟩)
                              | (go_at_call 74; ((first | with_reducible refine (hd1 _).mono ?_ | with_reducible refine (hd2 _).mono ?_)); rintro e w' ⟨rfl, m2, rfl⟩))
                            refine wp_letter (fun V => UpI W V ∧ V.heap[P]? = some (.cells (Ln.mk k1 k2 k3 k4 k5 sd bc rp ss 0 0).cells.toArray 50 (0, 0))) ⟨inferInstance, ((upI : Up V9 _).block P (lt_of_heap Hr9.out)).trans Hr9.out⟩ ?_
                            rintro VA ⟨uVA, hrA⟩
                            haveI := uVA
                            haveI : LtSize P VA := ⟨lt_of_heap hrA⟩
                            have a9 : VA.cell? ⟨P, 9, none⟩ = some (.int .i64 0) := by rw [cell_of_row VA P 9 _ _ _ hrA]; rfl
                            have b9 : VA.frozen? ⟨P, 9, none⟩ = false := frozen_of_row VA P 9 _ _ hrA
                            have a10 : VA.cell? ⟨P, 10, none⟩ = some (.int .i64 0) := by rw [cell_of_row VA P 10 _ _ _ hrA]; rfl
                            have b10 : VA.frozen? ⟨P, 10, none⟩ = false := frozen_of_row VA P 10 _ _ hrA
                            have HrA := Lib.hid hrA
                            clear hrA
                            go_upto_region 38 with fail
                            refine wp_letter (fun V => UpI W V ∧ V.heap[P]? = some (.cells (Ln.mk k1 k2 k3 k4 k5 sd bc rp ss n5 n7).cells.toArray 50 (0, 0))) ⟨⟨((upI : Up W VA).setCell hWP _).setCell hWP _⟩, by rw [heap_setCell_same _ P 10 _ _ _ (heap_setCell_same VA P 9 _ _ _ HrA.out)]; rfl⟩ ?_
                            rintro VB ⟨uVB, hrB2⟩
                            haveI := uVB
                            have hrow0 : VB.heap[B]? = some (.cells Ln.zero.cells.toArray 50 (0, 0)) := ((upI : Up W VB).block B hBW).trans HrB.out
                            have hz4 := setRow_heap _ B _ (Ln.mk k1 k2 k3 k4 k5 sd bc rp ss n5 n7).cells.toArray _ _ hrow0
                            haveI : LtSize B VB := ⟨Nat.lt_of_lt_of_le hBW (upI : Up W VB).size⟩
                            go_wp2_with (first
                              | (refine wpList_load_row rfl 50 _ rfl P rfl 50 (Ln.mk k1 k2 k3 k4 k5 sd bc rp ss n5 n7).cells.toArray (0, 0) _ hrB2 Tryz.underlying50 rfl rlnSize ?_)
                              | (refine wpList_store_row rfl 50 _ _ rfl B (Ln.mk k1 k2 k3 k4 k5 sd bc rp ss n5 n7).cells.toArray rfl rfl 50 Ln.zero.cells.toArray hrow0 rlnSize rfl (rl_all _) ?_))
                            refine bodyPost_ret (v := .tuple #[.agg (Ln.mk k1 k2 k3 k4 k5 sd bc rp ss n5 n7).cells.toArray, .int .i64 0]) (by simp [results, Tryz.results39, asAddr, run_loadVar_row _ B 50 50 (Ln.mk k1 k2 k3 k4 k5 sd bc rp ss n5 n7).cells.toArray (0, 0) _ hz4 Tryz.underlying50 rfl rlnSize]) rfl ⟨by unfold rreadV; rw [HY.out]; rfl, ⟨⟨_, up_setRowS (uW.up.trans upI) hwB _⟩, rfl⟩⟩
                · have HN := Lib.hid (show refReadL s = none by rw [Hx.out, hrs]; rfl)
                  clear Hx
                  have hrow0 : V9.heap[B]? = some (.cells Ln.zero.cells.toArray 50 (0, 0)) := ((upI : Up W V9).block B hBW).trans HrB.out
                  have hz4 := setRow_heap _ B _ Ln.zero.cells.toArray _ _ hrow0
                  haveI : LtSize B V9 := ⟨Nat.lt_of_lt_of_le hBW (upI : Up W V9).size⟩
                  go_wp2_with (refine wpList_store_row rfl 50 _ _ rfl B Ln.zero.cells.toArray rfl rfl 50 Ln.zero.cells.toArray hrow0 rlnSize rfl (rl_all _) ?_)
                  refine bodyPost_ret (v := .tuple #[.agg Ln.zero.cells.toArray, .int .i64 382]) (by simp [results, Tryz.results39, asAddr, run_loadVar_row _ B 50 50 Ln.zero.cells.toArray (0, 0) _ hz4 Tryz.underlying50 rfl rlnSize]) rfl ⟨by unfold rreadV; rw [HN.out]; rfl, ⟨⟨_, up_setRowS (uW.up.trans upI) hwB _⟩, rfl⟩⟩
            · have HN := Lib.hid (show refReadL s = none by rw [HX.out, hbs]; rfl)
              obtain rfl : bs = [] := by simpa using hbs
              clear hbk HX hrr
              have hrow0 : wr.heap[B]? = some (.cells Ln.zero.cells.toArray 50 (0, 0)) := ((upI : Up W wr).block B hBW).trans HrB.out
              have hz4 := setRow_heap _ B _ Ln.zero.cells.toArray _ _ hrow0
              haveI : LtSize B wr := ⟨Nat.lt_of_lt_of_le hBW (upI : Up W wr).size⟩
              go_wp2_with (refine wpList_store_row rfl 50 _ _ rfl B Ln.zero.cells.toArray rfl rfl 50 Ln.zero.cells.toArray hrow0 rlnSize rfl (rl_all _) ?_)
              refine bodyPost_ret (v := .tuple #[.agg Ln.zero.cells.toArray, .int .i64 382]) (by simp [results, Tryz.results39, asAddr, run_loadVar_row _ B 50 50 Ln.zero.cells.toArray (0, 0) _ hz4 Tryz.underlying50 rfl rlnSize]) rfl ⟨by unfold rreadV; rw [HN.out]; rfl, ⟨⟨_, up_setRowS (uW.up.trans upI) hwB _⟩, rfl⟩⟩
end Go.Proofs.YtgenojfbhpimgaaGreatDoor
