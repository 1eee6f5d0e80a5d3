/- The reference's reading: signs, numbers, addresses. -/
import Derived.Test.YtdebpdjkkblcfaaGreatDoorRefPlain
namespace Go.Ab
/-- A place in a string: how much is left; -1: none. -/
def atOf (l : List UInt8) : Option (List UInt8) → Int
  | none => -1
  | some r => (l.length : Int) - r.length
def Suf (l : List UInt8) (o : Option (List UInt8)) : Prop := ∀ r, o = some r → r <:+ l
theorem suf_drop {l r : List UInt8} (h : r <:+ l) : ∃ k, k ≤ l.length ∧ r = l.drop k := by
  obtain ⟨t, rfl⟩ := h
  exact ⟨t.length, by simp, by simp⟩
theorem atOf_drop (l : List UInt8) (k : Nat) (h : k ≤ l.length) : atOf l (some (l.drop k)) = k := by simp [atOf]; omega
theorem mk_get (l : List UInt8) (k : Nat) (h : k < (ByteArray.mk l.toArray).size) : (ByteArray.mk l.toArray)[k]'h = l[k]'(show k < l.length from h) := rfl
theorem drop_at (l : List UInt8) (k : Nat) (h : k < l.length) : l.drop k = l[k] :: l.drop (k + 1) := List.drop_eq_getElem_cons h
theorem suf_sign {l : List UInt8} {o : Option (List UInt8)} (c : UInt8) (h : Suf l o) : Suf l (signP c o) := fun r hr => by
  rw [signP_iff] at hr
  exact (List.suffix_cons c r).trans (h _ hr)
theorem suf_num {l : List UInt8} {o : Option (List UInt8)} (most : Int) (h : Suf l o) : Suf l (numP most o).2 := fun r hr => by
  obtain ⟨r0, rfl, e, _⟩ := numP_some hr
  exact (List.suffix_append _ r).trans (e ▸ h _ rfl)
theorem suf_self (l : List UInt8) : Suf l (some l) := fun r h => by cases h; exact List.suffix_refl l
theorem suf_addrSt {l : List UInt8} {o : Option (List UInt8)} (h : Suf l o) : ∀ k, Suf l (addrSt o k).2
  | 0 => h
  | k + 1 => by
    simp only [addrSt]
    split
    · exact suf_num _ (suf_addrSt h k)
    · exact suf_num _ (suf_sign _ (suf_addrSt h k))
theorem suf_addr {l : List UInt8} {o : Option (List UInt8)} (h : Suf l o) : Suf l (addrP o).2 := suf_addrSt h 4
theorem atOf_len (l : List UInt8) (o : Option (List UInt8)) : (atOf l o = l.length) ↔ o = some [] := by
  cases o with
  | none => simp [atOf]
  | some r =>
    simp only [atOf, Option.some.injEq]
    constructor
    · intro h; exact List.eq_nil_of_length_eq_zero (by omega)
    · intro h; subst h; simp
theorem atOf_bd {l : List UInt8} {o : Option (List UInt8)} (h : Suf l o) : -1 ≤ atOf l o ∧ atOf l o ≤ l.length := by
  cases o with
  | none => simp [atOf]
  | some r => have := (h r rfl).length_le; simp only [atOf]; omega
end Go.Ab
namespace Go.Proofs.YtdebpdjkkblcfaaGreatDoor
open Go.RowKit Go.Ab
attribute [local go_sem] mk_get

set_option maxHeartbeats 4000000 in
set_option maxRecDepth 100000 in
theorem sign_neg (l : List UInt8) (c : UInt8) (w : World) : Gives Tryz.prog 75 #[.string ⟨l.toArray⟩, .int .i64 (-1), .int .u8 (c.toNat : Int)] w (.int .i64 (-1)) := by
  unfold Gives
  go_enter Tryz.func75, Tryz.ntmps75
  go_wp2
  go_ret
  exact ⟨rfl, mkI⟩
set_option maxHeartbeats 4000000 in
set_option maxRecDepth 100000 in
theorem sign_end (l : List UInt8) (c : UInt8) (w : World) : Gives Tryz.prog 75 #[.string ⟨l.toArray⟩, .int .i64 (l.length : Int), .int .u8 (c.toNat : Int)] w (.int .i64 (-1)) := by
  unfold Gives
  have d0 : decide ((l.length : Int) < 0) = false := by simp
  have d1 : decide (l.length ≤ l.length) = true := by simp
  go_enter Tryz.func75, Tryz.ntmps75
  go_wp2
  go_ret
  exact ⟨rfl, mkI⟩
set_option maxHeartbeats 4000000 in
set_option maxRecDepth 100000 in
theorem sign_at (l : List UInt8) (k : Nat) (b c : UInt8) (w : World) (hl : l.length < 4294967281) (h : k < l.length) (hb : l[k] = b) (v : Int) (hv : if b = c then v = k + 1 else v = -1) :
    Gives Tryz.prog 75 #[.string ⟨l.toArray⟩, .int .i64 (k : Int), .int .u8 (c.toNat : Int)] w (.int .i64 v) := by
  unfold Gives
  have d0 : decide ((k : Int) < 0) = false := by simp
  have d1 : decide (l.length ≤ k) = false := by simp; omega
  by_cases e : b = c
  · rw [if_pos e] at hv
    subst e hv
    go_enter Tryz.func75, Tryz.ntmps75
    go_wp2
    go_ret
    exact ⟨rfl, mkI⟩
  · rw [if_neg e] at hv
    subst hv
    have d2 : ((b.toNat : Int) != (c.toNat : Int)) = true := by
      simp only [bne_iff_ne, ne_eq]
      intro h; exact e (UInt8.toNat_inj.1 (by omega))
    clear e
    go_enter Tryz.func75, Tryz.ntmps75
    go_wp2
    go_ret
    exact ⟨rfl, mkI⟩
theorem sign_any (l : List UInt8) (o : Option (List UInt8)) (c : UInt8) (w : World) (hl : l.length < 4294967281) (hs : Suf l o) :
    Gives Tryz.prog 75 #[.string ⟨l.toArray⟩, .int .i64 (atOf l o), .int .u8 (c.toNat : Int)] w (.int .i64 (atOf l (signP c o))) := by
  cases o with
  | none => exact sign_neg l c w
  | some r =>
    obtain ⟨k, hk, rfl⟩ := suf_drop (hs r rfl)
    rw [atOf_drop l k hk]
    rcases Nat.lt_or_ge k l.length with h | h
    · refine sign_at l k l[k] c w hl h rfl _ ?_
      rw [drop_at l k h]
      simp only [signP]
      split
      · have := atOf_drop l (k + 1) (by omega)
        rw [this]; omega
      · rfl
    · obtain rfl : k = l.length := by omega
      rw [List.drop_length]
      exact sign_end l c w

theorem take_succ_at (r : List UInt8) (j : Nat) (h : j < r.length) : r.take (j + 1) = r.take j ++ [r[j]] := List.take_succ_eq_append_getElem h
/-- How the loop ends, and what the number is then. -/
theorem numP_stop (most : Int) (r : List UInt8) (j : Nat) (hj : j ≤ r.length) (hd : ∀ c ∈ r.take j, isDig c = true) (hs : most < valL (r.take j) ∨ noDig (r.drop j)) :
    (j = 0 → numP most (some r) = (0, none)) ∧ (most < valL (r.take j) → numP most (some r) = (0, none)) ∧
    (valL (r.take j) ≤ most → (∀ h : 0 < r.length, r[0] = 48 → 1 < j → numP most (some r) = (0, none)) ∧
      (∀ h : 0 < r.length, 0 < j → (r[0] = 48 → j ≤ 1) → numP most (some r) = (valL (r.take j), some (r.drop j)))) := by
  have hno : most < valL (r.take j) → numP most (some r) = (0, none) := fun h => by
    rw [numP_eq]
    have e : ∃ t, digs r = r.take j ++ t := by
      have h1 : r.take j ++ r.drop j = r := List.take_append_drop j r
      refine ⟨digs (r.drop j), ?_⟩
      unfold digs
      conv => lhs; rw [← h1]
      rw [List.takeWhile_append_of_pos hd]
    obtain ⟨t, e⟩ := e
    have h2 := valL_mono (r.take j) t (by rw [← e]; exact digs_dig r)
    rw [e, if_neg]
    simp only [Bool.and_eq_true, decide_eq_true_eq]; omega
  have hok : valL (r.take j) ≤ most → digs r = r.take j ∧ after r = r.drop j := fun h => by
    have := digs_app (r.take j) (r.drop j) hd (by rcases hs with hs | hs; · omega
                                                  · exact hs)
    rwa [List.take_append_drop] at this
  refine ⟨fun h0 => ?_, hno, fun h => ⟨fun hl h48 h1 => ?_, fun hl h1 h48 => ?_⟩⟩
  · subst h0
    by_cases h : most < valL (r.take 0)
    · exact hno h
    · have := (hok (by omega)).1
      rw [numP_eq, this]; simp [plainB]
  · rw [numP_eq, (hok h).1]
    obtain ⟨a, t, rfl⟩ : ∃ a t, r = a :: t := by cases r with | nil => simp at hl | cons a t => exact ⟨a, t, rfl⟩
    obtain ⟨i, rfl⟩ : ∃ i, j = i + 2 := ⟨j - 2, by omega⟩
    simp only [List.getElem_cons_zero] at h48
    subst h48
    have : t ≠ [] := fun e => by subst e; simp at hj
    obtain ⟨b, u, rfl⟩ : ∃ b u, t = b :: u := by cases t with | nil => exact absurd rfl this | cons b u => exact ⟨b, u, rfl⟩
    rw [if_neg]; simp [plainB]
  · rw [numP_eq, (hok h).1, (hok h).2, if_pos]
    simp only [Bool.and_eq_true, decide_eq_true_eq]
    refine ⟨?_, h⟩
    obtain ⟨a, t, rfl⟩ : ∃ a t, r = a :: t := by cases r with | nil => simp at hl | cons a t => exact ⟨a, t, rfl⟩
    obtain ⟨i, rfl⟩ : ∃ i, j = i + 1 := ⟨j - 1, by omega⟩
    simp only [List.getElem_cons_zero] at h48
    by_cases ha : a = 48
    · have := h48 ha
      obtain rfl : i = 0 := by omega
      simp [plainB]
    · simp [plainB, ha]
set_option maxHeartbeats 4000000 in
set_option maxRecDepth 100000 in
theorem number_neg (l : List UInt8) (most : Int) (w : World) : Gives Tryz.prog 74 #[.string ⟨l.toArray⟩, .int .i64 (-1), .int .i64 most] w (.tuple #[.int .i64 0, .int .i64 (-1)]) := by
  unfold Gives
  go_enter Tryz.func74, Tryz.ntmps74
  go_wp2_with fail
  go_loopw [8, 9] (fun n i wr => n = .int .i64 0 ∧ i = .int .i64 (-1) ∧ wr = w) (fun _ _ _ => 0)
  case atStart => exact ⟨rfl, rfl, rfl⟩
  case round =>
    obtain ⟨rfl, rfl, rfl⟩ := hrel
    go_wp2
    go_ret2
    exact ⟨rfl, mkI⟩
set_option maxHeartbeats 16000000 in
set_option maxRecDepth 100000 in
theorem number_at (l : List UInt8) (k : Nat) (most : Int) (w : World) (hl : l.length < 4294967281) (hk : k ≤ l.length) (hm : 0 ≤ most) (hm1 : most ≤ 65535) :
    Gives Tryz.prog 74 #[.string ⟨l.toArray⟩, .int .i64 (k : Int), .int .i64 most] w (.tuple #[.int .i64 (numP most (some (l.drop k))).1, .int .i64 (atOf l (numP most (some (l.drop k))).2)]) := by
  have d0 : decide ((k : Int) < 0) = false := by simp
  have d1 : decide ((0 : Int) ≤ k) = true := by simp
  unfold Gives
  go_enter Tryz.func74, Tryz.ntmps74
  go_wp2_with fail
  go_loopw [8, 9] (fun n i wr => ∃ (j i' : Nat) (v : Int), i' ≤ l.length ∧ k ≤ i' ∧ Hid (i' = k + j) ∧ i = .int .i64 (i' : Int) ∧ n = .int .i64 v ∧ 0 ≤ v ∧ v ≤ 700000 ∧ Hid (v = valL ((l.drop k).take j)) ∧ Hid (∀ c ∈ (l.drop k).take j, isDig c = true) ∧ wr = w) (fun _ i _ => l.length - (intOf i).toNat)
  case atStart => exact ⟨0, k, 0, hk, Nat.le_refl _, Lib.hid rfl, rfl, rfl, by omega, by omega, Lib.hid (by simp [valL]), Lib.hid (by simp), rfl⟩
  case round =>
    obtain ⟨j, i', v, hi, hki, Hi, rfl, rfl, v0, v1, Hv, Hd, rfl⟩ := hrel
    have hlen : (l.drop k).length = l.length - k := by simp
    have stop := fun hs => numP_stop most (l.drop k) j (by rw [hlen]; have := Hi.out; omega) Hd.out hs
    rw [← Hv.out] at stop
    have Hlen := Lib.hid hlen
    have Hst := Lib.hid stop
    clear stop hlen
    by_cases hA : i' < l.length
    · obtain ⟨b, hb⟩ : ∃ b, l[i'] = b := ⟨_, rfl⟩
      have hdr : (l.drop k).drop j = b :: l.drop (i' + 1) := by rw [List.drop_drop, ← Hi.out, drop_at l i' hA, hb]
      have hdk : l.drop i' = b :: l.drop (i' + 1) := by rw [drop_at l i' hA, hb]
      have Hdr := Lib.hid hdr
      have Hb := Lib.hid hb
      clear hdr hdk
      by_cases hd : 48 ≤ b.toNat ∧ b.toNat ≤ 57
      · obtain ⟨hd1, hd2⟩ := hd
        by_cases hv : v ≤ most
        · clear Hst
          have hsn : (l.drop k).take (j + 1) = (l.drop k).take j ++ [b] := by
            have hj2 : j < (l.drop k).length := by rw [Hlen.out]; have := Hi.out; omega
            rw [List.take_succ_eq_append_getElem hj2]
            congr 2
            rw [List.getElem_drop]
            have := Hi.out
            rw [← Hb.out]; congr 1; omega
          have Hsn := Lib.hid hsn
          clear hsn
          go_wp2
          all_goals (first | (exfalso; omega) | skip)
          go_roundw
          case rel =>
            refine ⟨j + 1, i' + 1, 10 * v + ((b.toNat : Int) - 48), by omega, by omega, Lib.hid (by have := Hi.out; omega), by go_num, ?_, by omega, by omega, Lib.hid ?_, Lib.hid ?_, trivial⟩
            · first | rfl | (congr 1; omega) | (congr 2; omega)
            · rw [Hsn.out, valL_snoc, ← Hv.out]
            · rw [Hsn.out]
              intro c hc
              rcases List.mem_append.1 hc with h | h
              · exact Hd.out c h
              · simp at h; subst h; unfold isDig; simp; omega
          case measure => simp [intOf]; omega
        · have HS : most < v ∨ noDig ((l.drop k).drop j) := .inl (by omega)
          obtain ⟨R0, R1, R2⟩ := Hst.out HS
          by_cases hj : j = 0
          · have Z := Lib.hid (R0 hj)
            clear R0 R1 R2
            have hi2 := Hi.out
            have b1 : ((i' : Int) == k) = true := by simp; omega
            clear hi2 hj
            go_wp2
            all_goals (first | (exfalso; omega) | (go_ret2; exact ⟨by rw [Z.out]; rfl, mkI⟩))
          · have hki2 : k < i' := by have := Hi.out; omega
            have b1 : ((i' : Int) == k) = false := by simp; omega
            by_cases hmv : most < v
            · have Z := Lib.hid (R1 hmv)
              clear R0 R1 R2 hj
              go_wp2
              all_goals (first | (exfalso; omega) | (go_ret2; exact ⟨by rw [Z.out]; rfl, mkI⟩))
            · have hkl : k < l.length := by omega
              obtain ⟨b0, hb0⟩ : ∃ b0, l[k] = b0 := ⟨_, rfl⟩
              have hr0 : ∀ h : 0 < (l.drop k).length, (l.drop k)[0] = b0 := fun h => by rw [← hb0]; simp
              have hpos : 0 < (l.drop k).length := by rw [Hlen.out]; omega
              by_cases h48 : b0 = 48
              · have c48 : ((b0.toNat : Int) == 48) = true := by rw [h48]; rfl
                by_cases h1 : 1 < j
                · have Z := Lib.hid ((R2 (by omega)).1 hpos (by rw [hr0 hpos, h48]) h1)
                  have hk2 : k + 1 < i' := by have := Hi.out; omega
                  clear R0 R1 R2 hj hr0 hpos h48 h1
                  go_wp2
                  all_goals (first | (exfalso; omega) | (go_ret2; exact ⟨by rw [Z.out]; rfl, mkI⟩))
                · have Z := Lib.hid ((R2 (by omega)).2 hpos (by omega) (fun _ => by omega))
                  have hk2 : i' ≤ k + 1 := by have := Hi.out; omega
                  clear R0 R1 R2 hj hr0 hpos h48 h1
                  go_wp2
                  all_goals (first | (exfalso; omega) | (go_ret2; exact ⟨by rw [Z.out, List.drop_drop, ← Hi.out]; show _ = Ending.returned (.tuple #[.int .i64 v, .int .i64 (atOf l (some (l.drop i')))]); rw [atOf_drop l i' hi]; rfl, mkI⟩))
              · have c48 : ((b0.toNat : Int) == 48) = false := by
                  simp only [beq_eq_false_iff_ne, ne_eq]
                  intro h; exact h48 (UInt8.toNat_inj.1 (by simp; omega))
                have Z := Lib.hid ((R2 (by omega)).2 hpos (by omega) (fun h => absurd ((hr0 hpos).symm.trans h) h48))
                clear R0 R1 R2 hj hr0 hpos h48
                go_wp2
                all_goals (first | (exfalso; omega) | (go_ret2; exact ⟨by rw [Z.out, List.drop_drop, ← Hi.out]; show _ = Ending.returned (.tuple #[.int .i64 v, .int .i64 (atOf l (some (l.drop i')))]); rw [atOf_drop l i' hi]; rfl, mkI⟩))
      · have HS : most < v ∨ noDig ((l.drop k).drop j) := .inr (by rw [Hdr.out]; unfold noDig isDig; simp; omega)
        obtain ⟨R0, R1, R2⟩ := Hst.out HS
        by_cases hj : j = 0
        · have Z := Lib.hid (R0 hj)
          clear R0 R1 R2
          have hi2 := Hi.out
          have b1 : ((i' : Int) == k) = true := by simp; omega
          clear hi2 hj
          go_wp2
          all_goals (first | (exfalso; omega) | (go_ret2; exact ⟨by rw [Z.out]; rfl, mkI⟩))
        · have hki2 : k < i' := by have := Hi.out; omega
          have b1 : ((i' : Int) == k) = false := by simp; omega
          by_cases hmv : most < v
          · have Z := Lib.hid (R1 hmv)
            clear R0 R1 R2 hj
            go_wp2
            all_goals (first | (exfalso; omega) | (go_ret2; exact ⟨by rw [Z.out]; rfl, mkI⟩))
          · have hkl : k < l.length := by omega
            obtain ⟨b0, hb0⟩ : ∃ b0, l[k] = b0 := ⟨_, rfl⟩
            have hr0 : ∀ h : 0 < (l.drop k).length, (l.drop k)[0] = b0 := fun h => by rw [← hb0]; simp
            have hpos : 0 < (l.drop k).length := by rw [Hlen.out]; omega
            by_cases h48 : b0 = 48
            · have c48 : ((b0.toNat : Int) == 48) = true := by rw [h48]; rfl
              by_cases h1 : 1 < j
              · have Z := Lib.hid ((R2 (by omega)).1 hpos (by rw [hr0 hpos, h48]) h1)
                have hk2 : k + 1 < i' := by have := Hi.out; omega
                clear R0 R1 R2 hj hr0 hpos h48 h1
                go_wp2
                all_goals (first | (exfalso; omega) | (go_ret2; exact ⟨by rw [Z.out]; rfl, mkI⟩))
              · have Z := Lib.hid ((R2 (by omega)).2 hpos (by omega) (fun _ => by omega))
                have hk2 : i' ≤ k + 1 := by have := Hi.out; omega
                clear R0 R1 R2 hj hr0 hpos h48 h1
                go_wp2
                all_goals (first | (exfalso; omega) | (go_ret2; exact ⟨by rw [Z.out, List.drop_drop, ← Hi.out]; show _ = Ending.returned (.tuple #[.int .i64 v, .int .i64 (atOf l (some (l.drop i')))]); rw [atOf_drop l i' hi]; rfl, mkI⟩))
            · have c48 : ((b0.toNat : Int) == 48) = false := by
                simp only [beq_eq_false_iff_ne, ne_eq]
                intro h; exact h48 (UInt8.toNat_inj.1 (by simp; omega))
              have Z := Lib.hid ((R2 (by omega)).2 hpos (by omega) (fun h => absurd ((hr0 hpos).symm.trans h) h48))
              clear R0 R1 R2 hj hr0 hpos h48
              go_wp2
              all_goals (first | (exfalso; omega) | (go_ret2; exact ⟨by rw [Z.out, List.drop_drop, ← Hi.out]; show _ = Ending.returned (.tuple #[.int .i64 v, .int .i64 (atOf l (some (l.drop i')))]); rw [atOf_drop l i' hi]; rfl, mkI⟩))
    · have HS : most < v ∨ noDig ((l.drop k).drop j) := .inr (by rw [List.drop_eq_nil_of_le (by rw [Hlen.out]; have := Hi.out; omega)]; trivial)
      obtain ⟨R0, R1, R2⟩ := Hst.out HS
      by_cases hj : j = 0
      · have Z := Lib.hid (R0 hj)
        clear R0 R1 R2
        have hi2 := Hi.out
        have b1 : ((i' : Int) == k) = true := by simp; omega
        clear hi2 hj
        go_wp2
        all_goals (first | (exfalso; omega) | (go_ret2; exact ⟨by rw [Z.out]; rfl, mkI⟩))
      · have hki2 : k < i' := by have := Hi.out; omega
        have b1 : ((i' : Int) == k) = false := by simp; omega
        by_cases hmv : most < v
        · have Z := Lib.hid (R1 hmv)
          clear R0 R1 R2 hj
          go_wp2
          all_goals (first | (exfalso; omega) | (go_ret2; exact ⟨by rw [Z.out]; rfl, mkI⟩))
        · have hkl : k < l.length := by omega
          obtain ⟨b0, hb0⟩ : ∃ b0, l[k] = b0 := ⟨_, rfl⟩
          have hr0 : ∀ h : 0 < (l.drop k).length, (l.drop k)[0] = b0 := fun h => by rw [← hb0]; simp
          have hpos : 0 < (l.drop k).length := by rw [Hlen.out]; omega
          by_cases h48 : b0 = 48
          · have c48 : ((b0.toNat : Int) == 48) = true := by rw [h48]; rfl
            by_cases h1 : 1 < j
            · have Z := Lib.hid ((R2 (by omega)).1 hpos (by rw [hr0 hpos, h48]) h1)
              have hk2 : k + 1 < i' := by have := Hi.out; omega
              clear R0 R1 R2 hj hr0 hpos h48 h1
              go_wp2
              all_goals (first | (exfalso; omega) | (go_ret2; exact ⟨by rw [Z.out]; rfl, mkI⟩))
            · have Z := Lib.hid ((R2 (by omega)).2 hpos (by omega) (fun _ => by omega))
              have hk2 : i' ≤ k + 1 := by have := Hi.out; omega
              clear R0 R1 R2 hj hr0 hpos h48 h1
              go_wp2
              all_goals (first | (exfalso; omega) | (go_ret2; exact ⟨by rw [Z.out, List.drop_drop, ← Hi.out]; show _ = Ending.returned (.tuple #[.int .i64 v, .int .i64 (atOf l (some (l.drop i')))]); rw [atOf_drop l i' hi]; rfl, mkI⟩))
          · have c48 : ((b0.toNat : Int) == 48) = false := by
              simp only [beq_eq_false_iff_ne, ne_eq]
              intro h; exact h48 (UInt8.toNat_inj.1 (by simp; omega))
            have Z := Lib.hid ((R2 (by omega)).2 hpos (by omega) (fun h => absurd ((hr0 hpos).symm.trans h) h48))
            clear R0 R1 R2 hj hr0 hpos h48
            go_wp2
            all_goals (first | (exfalso; omega) | (go_ret2; exact ⟨by rw [Z.out, List.drop_drop, ← Hi.out]; show _ = Ending.returned (.tuple #[.int .i64 v, .int .i64 (atOf l (some (l.drop i')))]); rw [atOf_drop l i' hi]; rfl, mkI⟩))
theorem number_any (l : List UInt8) (o : Option (List UInt8)) (most : Int) (w : World) (hl : l.length < 4294967281) (hs : Suf l o) (hm : 0 ≤ most) (hm1 : most ≤ 65535) :
    Gives Tryz.prog 74 #[.string ⟨l.toArray⟩, .int .i64 (atOf l o), .int .i64 most] w (.tuple #[.int .i64 (numP most o).1, .int .i64 (atOf l (numP most o).2)]) := by
  cases o with
  | none => exact number_neg l most w
  | some r =>
    obtain ⟨k, hk, rfl⟩ := suf_drop (hs r rfl)
    rw [atOf_drop l k hk]
    exact number_at l k most w hl hk hm hm1

set_option maxHeartbeats 4000000 in
set_option maxRecDepth 100000 in
theorem address_any (l : List UInt8) (o : Option (List UInt8)) (w : World) (hl : l.length < 4294967281) (hs : Suf l o) :
    Gives Tryz.prog 76 #[.string ⟨l.toArray⟩, .int .i64 (atOf l o)] w (.tuple #[.int .i64 (addrP o).1, .int .i64 (atOf l (addrP o).2)]) := by
  unfold Gives
  go_enter Tryz.func76, Tryz.ntmps76
  go_wp2_with fail
  go_loopw [1, 6, 7] (fun at_ a kk wr => ∃ (k : Nat) (at' a' : Int), k ≤ 4 ∧ kk = .int .i64 (k : Int) ∧ at_ = .int .i64 at' ∧ Hid (at' = atOf l (addrSt o k).2) ∧ a = .int .i64 a' ∧ Hid (a' = (addrSt o k).1) ∧ ∃ x : Ext w, wr = x.w) (fun _ _ kk _ => 4 - (intOf kk).toNat)
  case atStart => exact ⟨0, _, _, by omega, rfl, rfl, Lib.hid rfl, rfl, Lib.hid rfl, (Up.refl w).mk⟩
  case round =>
    obtain ⟨k, at', a', hk, rfl, rfl, Hat, rfl, Ha, x, rfl⟩ := hrel
    by_cases h4 : k < 4
    · obtain ⟨c0, c1⟩ := addrSt_bd o k
      rw [← Ha.out] at c0 c1
      have c2 : a' < 16777216 := by
        have : (256 : Int) ^ k ≤ 256 ^ 3 := by
          have := Nat.pow_le_pow_right (n := 256) (by decide) (show k ≤ 3 by omega)
          exact_mod_cast this
        have e : (256 : Int) ^ 3 = 16777216 := by decide
        omega
      have hsu := suf_addrSt hs k
      clear c1
      rcases Nat.eq_zero_or_pos k with h0 | h0
      · subst h0
        obtain ⟨p, Hp⟩ : ∃ p, Hid (p = (addrSt o 0).2) := ⟨_, Lib.hid rfl⟩
        have hat : at' = atOf l p := by rw [Hat.out, Hp.out]
        have hsp : Suf l p := by rw [Hp.out]; exact hsu
        obtain ⟨n0, n1⟩ := numP_bd 255 (by omega) p
        clear Hat hsu
        subst hat
        go_wp2_with (go_at_call 74; refine (number_any l p 255 _ hl hsp (by omega) (by omega)).mono ?_; rintro e w' ⟨rfl, x, rfl⟩)
        go_roundw
        case rel => exact ⟨1, _, _, by omega, by go_num, rfl, Lib.hid (by simp only [addrSt, if_true]; rw [Hp.out]; rfl), rfl, Lib.hid (by simp only [addrSt, if_true]; rw [Ha.out, Hp.out]; rfl), mkI⟩
        case measure => simp [intOf]
      · obtain ⟨p, Hp⟩ : ∃ p, Hid (p = (addrSt o k).2) := ⟨_, Lib.hid rfl⟩
        have hat : at' = atOf l p := by rw [Hat.out, Hp.out]
        have hsp : Suf l p := by rw [Hp.out]; exact hsu
        obtain ⟨n0, n1⟩ := numP_bd 255 (by omega) (signP 46 p)
        clear Hat hsu
        subst hat
        go_wp2_with (first
          | (go_at_call 75; refine (sign_any l p 46 _ hl hsp).mono ?_; rintro e w' ⟨rfl, x, rfl⟩)
          | (go_at_call 74; refine (number_any l (signP 46 p) 255 _ hl (suf_sign 46 hsp) (by omega) (by omega)).mono ?_; rintro e w' ⟨rfl, x, rfl⟩))
        go_roundw
        case rel => exact ⟨k + 1, _, _, by omega, by go_num, rfl, Lib.hid (by simp only [addrSt]; rw [if_neg (by omega), Hp.out]), rfl, Lib.hid (by simp only [addrSt]; rw [if_neg (by omega), Ha.out, Hp.out]), mkI⟩
        case measure => simp [intOf]; omega
    · obtain rfl : k = 4 := by omega
      go_wp2
      go_ret2
      exact ⟨by rw [Ha.out, Hat.out]; rfl, mkI⟩
end Go.Proofs.YtdebpdjkkblcfaaGreatDoor
