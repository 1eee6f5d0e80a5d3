/- The events that a ring keeps, as an iterator. -/
import Derived.Test.YtdebpdjkkblcfaaDoorRing4
import Derived.Test.YtdebpdjkkblcfaaDoorRange2
import Derived.Test.YtdebpdjkkblcfaaDoorCover
namespace Go.Ab
open Go.RowKit
/-- Events with their numbers. -/
def numbered (n : Nat) : List Ev → List (Nat × Ev)
  | [] => []
  | e :: t => (n, e) :: numbered (n + 1) t
/-- The events that a ring keeps, with their numbers. -/
def keptL (l : List Ev) (size : Nat) : List (Nat × Ev) := numbered (l.length - min l.length size) (l.drop (l.length - min l.length size))
theorem numbered_step (l : List Ev) (n : Nat) (e : Ev) (h : l[n]? = some e) : numbered n (l.drop n) = (n, e) :: numbered (n + 1) (l.drop (n + 1)) := by
  obtain ⟨hn, rfl⟩ := List.getElem?_eq_some_iff.1 h
  rw [List.drop_eq_getElem_cons hn]; rfl
theorem numbered_end (l : List Ev) (n : Nat) (h : l.length ≤ n) : numbered n (l.drop n) = [] := by
  rw [List.drop_eq_nil_of_le h]; rfl
theorem numbered_length (l : List Ev) : ∀ n, (numbered n l).length = l.length := by
  induction l with
  | nil => intro n; rfl
  | cons e t ih => intro n; simp [numbered, ih]
theorem keptL_length (l : List Ev) (size : Nat) : (keptL l size).length ≤ l.length := by
  unfold keptL; rw [numbered_length]; simp
def keptOwn (bk R G : Nat) (_ : Nat) (b : Nat) : Prop := b = bk ∨ b = R ∨ b = G
def encEv (p : Nat × Ev) : Array Value := #[.int .i64 (p.1 : Int), p.2.val]
def noOwn (_ : Nat) (_ : Nat) : Prop := False
theorem RingIs.kept {w W : World} {te tr : TypeId} {R G size : Nat} {l : List Ev} {p : Nat → Prop} (h : RingIs w te tr R G size l) (k : Kept p w W) (hR : p R) (hG : p G) : RingIs W te tr R G size l := by
  refine ⟨h.s0, h.s1, h.len, h.ne, k.at h.ring hR, ?_⟩
  obtain ⟨cs, hc, r⟩ := h.evs
  exact ⟨cs, k.at hc hG, r⟩
end Go.Ab
namespace Go.Proofs.YtdebpdjkkblcfaaDoor
open Go.RowKit Go.Ab
attribute [local go_sem] Oper.semAt_some
set_option maxHeartbeats 8000000 in
set_option maxRecDepth 100000 in
theorem kept_seq (bk R G size : Nat) (l0 : List Ev) :
    SeqUpK Tryd.prog 65 #[.pointer (some ⟨bk, 0, none⟩)] encEv (fun xs => xs = keptL l0 size) (fun pre => pre <+: keptL l0 size) noOwn (keptOwn bk R G)
      (fun W => W.cell? ⟨bk, 0, none⟩ = some (.pointer (some ⟨R, 0, none⟩)) ∧ Ring W R G size l0) := by
  intro l J Jx W hK hJ hJx hY h0
  obtain ⟨hc1, hr1⟩ := hK
  have ll := hr1.len
  have htot : ∀ w0 w', Ring w0 R G size l0 → UpI w0 w' → Gives Tryd.prog 25 #[.pointer (some ⟨R, 0, none⟩)] w' (.int .i64 (l0.length : Int)) := fun w0 w' h hu => ring_total w' R G size l0 (h.up hu.up)
  have hlen : ∀ w0 w', Ring w0 R G size l0 → UpI w0 w' → Gives Tryd.prog 28 #[.pointer (some ⟨R, 0, none⟩)] w' (.int .i64 ((min l0.length size : Nat) : Int)) := fun w0 w' h hu => ring_len w' R G size l0 (h.up hu.up)
  haveI : LtSize bk W := ⟨cell_lt' hc1⟩
  obtain ⟨t, ht⟩ : ∃ t, l0.length = t := ⟨_, rfl⟩
  obtain ⟨m, hm⟩ : ∃ m, min l0.length size = m := ⟨_, rfl⟩
  have hmt : m ≤ t := by omega
  have hms : t ≤ t - m + size := by omega
  rw [ht] at htot ll
  rw [hm] at hlen
  have KL := Lib.hid (show keptL l0 size = numbered (t - m) (l0.drop (t - m)) by unfold keptL; rw [hm, ht])
  have HT := Lib.hid ht
  clear ht hm
  have tm : ((t : Int) - (m : Int)) = ((t - m : Nat) : Int) := by omega
  have tm0 : (0 : Int) ≤ ((t - m : Nat) : Int) := by omega
  go_enter Tryd.func65, Tryd.ntmps65
  go_wp2_with fail
  (refine wp_region_ext (by kernel_rfl) (by kernel_rfl) ?_; (repeat (go_big_quiet_step ((first
    | (go_at_call 25; exact (htot W _ hr1 inferInstance).ext)
    | (go_at_call 28; exact (hlen W _ hr1 inferInstance).ext))))); refine wpQuiet_nil ?_; rintro _ ⟨y, rfl⟩)
  go_wp2_with fail
  have cy : y.w.cell? ⟨bk, 0, none⟩ = some (.pointer (some ⟨R, 0, none⟩)) := y.up.cell_some' hc1
  have ry := hr1.up y.up
  have jy := hJ _ _ _ h0 (Turn.of_up y.up)
  have tm2 : t - m ≤ t := by omega
  generalize ha : t - m = a at *
  go_loopw [3] (fun i wr => ∃ (n : Nat) (pre : List (Nat × Ev)), a ≤ n ∧ n ≤ t ∧ i = .int .i64 (n : Int) ∧ Hid (pre ++ numbered n (l0.drop n) = keptL l0 size) ∧ J pre wr ∧ wr.cell? ⟨bk, 0, none⟩ = some (.pointer (some ⟨R, 0, none⟩)) ∧ Ring wr R G size l0) (fun i _ => t - (intOf i).toNat)
  case atStart => exact ⟨a, [], by omega, tm2, rfl, Lib.hid (by rw [KL.out]; rfl), jy, cy, ry⟩
  case round =>
    clear cy ry jy y
    obtain ⟨n, pre, n0, n1, rfl, Hk, hj, c1, r1⟩ := hrel
    haveI : LtSize bk wr := ⟨cell_lt' c1⟩
    haveI : LtSize R wr := ⟨r1.ltR⟩
    haveI : LtSize G wr := ⟨r1.ltG⟩
    by_cases hlt : n < t
    · have hlt' : (n : Int) < (t : Int) := by omega
      obtain ⟨e, he⟩ : ∃ e, l0[n]? = some e := ⟨_, List.getElem?_eq_getElem (by rw [HT.out]; exact hlt)⟩
      have hev := r1.ev n e he (by rw [HT.out]; omega)
      have b0 := hev 0 _ rfl; have b1 := hev 1 _ rfl; have b2 := hev 2 _ rfl; have b3 := hev 3 _ rfl; have b4 := hev 4 _ rfl; have b5 := hev 5 _ rfl; have b6 := hev 6 _ rfl; have b7 := hev 7 _ rfl
      clear hev
      have hat : ∀ w', UpI wr w' → Gives Tryd.prog 48 #[.pointer (some ⟨R, 0, none⟩), .int .i64 (n : Int)] w' (.pointer (some ⟨G, n % size * 8, none⟩)) := fun w' hu => ring_at w' R G size l0 n (r1.up hu.up) (by omega)
      generalize n % size * 8 = g at *
      rw [Nat.add_zero] at b0
      have Hst := Lib.hid (numbered_step l0 n e he)
      have Hpre : Hid ((pre ++ [(n, e)]) <+: keptL l0 size) := by unfold Hid; rw [← Hk.out, Hst.out]; exact ⟨_, by rw [List.append_assoc]; rfl⟩
      clear he
      go_upto_region 3 with (first
        | (go_at_call 25; refine (htot wr _ r1 inferInstance).mono ?_; rintro e w' ⟨rfl, x, rfl⟩))
      refine (wpIn_wide (n := 0)).1 ?_
      gi_wp2_with fail
      refine ⟨trivial, rfl, (callsIn_wide.2 (hat _ inferInstance)).mono ?_⟩
      rintro e' w' ⟨rfl, x2, rfl⟩
      have cz : x2.w.cell? ⟨bk, 0, none⟩ = some (.pointer (some ⟨R, 0, none⟩)) := (x.up.ext x2).cell_some' c1
      have rz := r1.up (x.up.ext x2)
      obtain ⟨fn, tmps, assign, body, hy, hR⟩ := hY pre (n, e) x2.w (hJ _ _ _ hj (Turn.of_up (x.up.ext x2))) Hpre.out
      change (Instr.yield l #[.int .i64 (n : Int), .agg #[.int .i64 e.n, .int .u8 e.sd, .int .u8 e.r, .int .u8 e.pr, .int .u32 e.s, .int .u32 e.d, .int .u16 e.sp, .int .u16 e.dp]]).run Tryd.prog x2.w = _ at hy
      have Hy := Lib.hid hy
      have HR := Lib.hid hR
      clear hR hY hat
      gi_wp2_with fail
      refine ⟨rfl, HR.out.mono ?_⟩
      rintro e' W' (⟨rfl, hJ', hk⟩ | ⟨rfl, hJx'⟩)
      · have cw := hk.cell cz (.inl rfl)
        have rw' := rz.kept hk (.inr (.inl rfl)) (.inr (.inr rfl))
        gi_wp2_with fail
        go_wp2_with fail
        exact ⟨⟨n + 1, pre ++ [(n, e)], by omega, by omega, by rw [Int.natCast_add]; rfl, by unfold Hid; rw [← Hk.out, Hst.out]; simp, hJ', cw, rw'⟩, by simp [intOf]; omega⟩
      · gi_wp2_with fail
        go_wp2_with fail
        (try simp only [Exit.inBlock, Exit.then])
        refine bodyPost_ret (results_none rfl _ _ _) rfl ?_
        exact ⟨⟨_, rfl⟩, .inr ⟨_, hJx'⟩⟩
    · have hb : decide ((n : Int) < (t : Int)) = false := by simp; omega
      have Hend := Lib.hid (numbered_end l0 n (by rw [HT.out]; omega))
      go_wp2_with (first
        | (go_at_call 25; refine (htot wr _ r1 inferInstance).mono ?_; rintro e w' ⟨rfl, x, rfl⟩))
      go_end0
      exact ⟨⟨_, rfl⟩, .inl ⟨pre, by rw [← Hk.out, Hend.out]; simp, hJ _ _ _ hj (Turn.of_up x.up)⟩⟩
theorem kept_any (R : Nat) (w : World) :
    Calls Tryd.prog 49 #[.pointer (some ⟨R, 0, none⟩)] w fun e w' =>
      e = .returned (.func (.func 65) #[] #[.pointer (some ⟨w.heap.size, 0, none⟩)]) ∧ w.alloc (.cells #[.pointer (some ⟨R, 0, none⟩)] 51) = w' := by
  go_enter Tryd.func49, Tryd.ntmps49
  go_wp2
  go_ret
  exact ⟨rfl, rfl⟩
end Go.Proofs.YtdebpdjkkblcfaaDoor
