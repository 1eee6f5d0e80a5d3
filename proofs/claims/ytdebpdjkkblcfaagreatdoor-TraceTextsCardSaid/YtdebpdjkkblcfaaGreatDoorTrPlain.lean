/- Plain laws of the texts of events: what is written is read back. -/
import Derived.Test.YtdebpdjkkblcfaaGreatDoorTr3
import Derived.Test.YtdebpdjkkblcfaaGreatDoorRing1
import Derived.Test.YtdebpdjkkblcfaaGreatDoorRound
namespace Go.Ab
open Go.RowKit
open Go.Proofs.YtdebpdjkkblcfaaGreatDoor
def Ev.text (e : Ev) : List UInt8 := evText e.n e.sd e.r e.pr e.s e.d e.sp e.dp
theorem nameOf_chars (r : Int) : (32 : UInt8) ∉ nameOf r := by
  have h : ∀ i, i < 31 → (32 : UInt8) ∉ (namesL[i]?).getD [] := by decide
  unfold nameOf
  split
  · exact h _ (by omega)
  · simp
theorem rsN_name (r : Int) (h0 : 1 ≤ r) (h1 : r < 31) : rsN (nameOf r) = r := by
  have h : ∀ i : Nat, i < 31 → 1 ≤ i → rsN ((namesL[i]?).getD []) = (i : Int) := by decide
  unfold nameOf
  rw [if_pos ⟨h0, h1⟩, h _ (by omega) (by omega)]
  omega
theorem rvSd_word (sd : Int) (h0 : 0 ≤ sd) (h1 : sd ≤ 1) : rvSd (wordOf sd) = sd := by
  rcases (by omega : sd = 0 ∨ sd = 1) with rfl | rfl <;> rfl
theorem word_chars (sd : Int) : (32 : UInt8) ∉ wordOf sd := by unfold wordOf; split <;> decide
theorem verdict_chars (r : Int) : (32 : UInt8) ∉ verdictOf r := by unfold verdictOf; split <;> decide
theorem ev_parts (e : Ev) (h0 : 0 ≤ e.n) : parts5 e.text = [dec e.n, wordOf e.sd, verdictOf e.r, nameOf e.r, evKey e.r e.pr e.s e.d e.sp e.dp] :=
  parts5_mk _ _ _ _ _ (dec_digit _ h0 _ (by decide)) (word_chars _) (verdict_chars _) (nameOf_chars _)
theorem ev_right_parts {e : Ev} (h : e.right = true) : (0 ≤ e.n ∧ e.n ≤ 1099511627776) ∧ (e.sd ≤ 1 ∧ 1 ≤ e.r ∧ e.r < 30) ∧ (e.r < 20 → e.pr = 0 ∧ e.s = 0 ∧ e.d = 0 ∧ e.sp = 0 ∧ e.dp = 0) := by
  unfold Ev.right rightEv at h
  simp only [Bool.and_eq_true, decide_eq_true_eq] at h
  obtain ⟨h1, h2, h3⟩ := h
  refine ⟨h1, h2, fun hr => ?_⟩
  rw [if_pos hr] at h3
  simpa using h3
/-- What the parts of a text tell. -/
def evOf (a b d e : List UInt8) : Ev := ⟨atoiV a, rvSd b, rsN d, kv (kvB e) (kPr e), kv (kvB e) (kS e), kv (kvB e) (kD e), kv (kvB e) (kSp e), kv (kvB e) (kDp e)⟩
theorem evOf_b (a b d e : List UInt8) : EvB (evOf a b d e) := by
  have h1 := atoiV_bounds a
  have h2 := rsN_bd d
  have h3 := kv_bounds e
  unfold evOf
  refine ⟨h1.1, h1.2, ?_, ?_, h2.1, ?_, ?_⟩
  · show 0 ≤ rvSd b; unfold rvSd; split <;> omega
  · show rvSd b < 256; unfold rvSd; split <;> omega
  · show rsN d < 256; omega
  · simp only
    exact h3
theorem evOk_eq (l a b d e : List UInt8) : evOk l a b d e = ((evOf a b d e).right && ((evOf a b d e).text == l)) := by simp only [evOk, Ev.right, Ev.text, evOf]
theorem evGot_eq (a b d e : List UInt8) : evGot a b d e = .tuple #[(evOf a b d e).val, .int .i64 0] := by simp only [evGot, Ev.val, evOf]
theorem kv_text (pr s d sp dp : Int) (k : KeyB pr s d sp dp) : kv (kvB (keyTextL pr s d sp dp)) (kPr (keyTextL pr s d sp dp)) = pr ∧ kv (kvB (keyTextL pr s d sp dp)) (kS (keyTextL pr s d sp dp)) = s ∧ kv (kvB (keyTextL pr s d sp dp)) (kD (keyTextL pr s d sp dp)) = d ∧
    kv (kvB (keyTextL pr s d sp dp)) (kSp (keyTextL pr s d sp dp)) = sp ∧ kv (kvB (keyTextL pr s d sp dp)) (kDp (keyTextL pr s d sp dp)) = dp := by
  obtain ⟨h1, h2, h3, h4, h5⟩ := readKey_text pr s d sp dp k.r0 k.r1 k.s0 k.s1 k.d0 k.d1 k.sp0 k.sp1 k.dp0 k.dp1
  have hb : kvB (keyTextL pr s d sp dp) = true := by unfold kvB kText; rw [h1, h2, h3, h4, h5]; simp
  rw [hb, h1, h2, h3, h4, h5]
  exact ⟨rfl, rfl, rfl, rfl, rfl⟩
theorem kv_dash : kv (kvB [45]) (kPr [45]) = 0 ∧ kv (kvB [45]) (kS [45]) = 0 ∧ kv (kvB [45]) (kD [45]) = 0 ∧ kv (kvB [45]) (kSp [45]) = 0 ∧ kv (kvB [45]) (kDp [45]) = 0 := by
  rw [show kvB [45] = false from by decide +kernel]; exact ⟨rfl, rfl, rfl, rfl, rfl⟩
theorem evOf_text (e : Ev) (b : EvB e) (h : e.right = true) : evOf (dec e.n) (wordOf e.sd) (nameOf e.r) (evKey e.r e.pr e.s e.d e.sp e.dp) = e := by
  obtain ⟨⟨n0, n1⟩, ⟨s1, r1, r30⟩, hk⟩ := ev_right_parts h
  obtain ⟨n, sd, r, pr, s, d, sp, dp⟩ := e
  simp only at *
  have hn := atoiV_dec n n0 (by omega)
  have hs := rvSd_word sd b.sd0 s1
  have hr := rsN_name r r1 (by omega)
  unfold evOf
  rw [hn, hs, hr]
  by_cases h20 : r < 20
  · obtain ⟨rfl, rfl, rfl, rfl, rfl⟩ := hk h20
    obtain ⟨k1, k2, k3, k4, k5⟩ := kv_dash
    unfold evKey
    rw [if_pos h20, k1, k2, k3, k4, k5]
  · obtain ⟨k1, k2, k3, k4, k5⟩ := kv_text pr s d sp dp b.key
    unfold evKey
    rw [if_neg h20, k1, k2, k3, k4, k5]
/-- What is written is read back. -/
theorem read_ev (e : Ev) (b : EvB e) (h : e.right = true) : readEvV e.text = .tuple #[e.val, .int .i64 0] := by
  unfold readEvV
  rw [ev_parts e (ev_right_parts h).1.1]
  simp only
  rw [evOk_eq, evGot_eq, evOf_text e b h, h]
  simp
theorem val_inj {a b : Ev} (h : a.val = b.val) : a = b := by
  obtain ⟨_, _, _, _, _, _, _, _⟩ := a
  obtain ⟨_, _, _, _, _, _, _, _⟩ := b
  simp [Ev.val] at h
  simp [h]
theorem ev_text_eq (a b : Ev) (ha : EvB a) (hb : EvB b) (h1 : a.right = true) (h2 : b.right = true) : a.text = b.text ↔ a = b := by
  refine ⟨fun h => ?_, fun h => by rw [h]⟩
  have k1 := read_ev a ha h1
  rw [h, read_ev b hb h2] at k1
  exact val_inj (by simpa using k1.symm)
/-- What is read from a string. -/
theorem read_any_ev (l : List UInt8) : readEvV l = .tuple #[Ev.zero.val, .int .i64 410] ∨ ∃ e, EvB e ∧ e.right = true ∧ e.text = l ∧ readEvV l = .tuple #[e.val, .int .i64 0] := by
  unfold readEvV
  split
  · rename_i a b c d e he
    split
    · rename_i ho
      rw [evOk_eq] at ho
      simp only [Bool.and_eq_true, beq_iff_eq] at ho
      exact .inr ⟨evOf a b d e, evOf_b a b d e, ho.1, ho.2, evGot_eq a b d e⟩
    · exact .inl rfl
  · exact .inl rfl
theorem text_len (e : Ev) (b : EvB e) (h : e.right = true) : e.text.length ≤ 500 := by
  obtain ⟨⟨n0, n1⟩, ⟨s1, r1, r30⟩, _⟩ := ev_right_parts h
  have l1 := dec_length e.n (by omega) (by omega)
  have l2 : (wordOf e.sd).length ≤ 3 := by unfold wordOf; split <;> simp
  have l3 : (verdictOf e.r).length ≤ 4 := by unfold verdictOf; split <;> simp
  have l4 : (nameOf e.r).length ≤ 8 := by
    unfold nameOf; rw [if_pos (by omega)]
    obtain ⟨t, ht⟩ := names_at e.r.toNat (by omega)
    rw [ht]; exact names_short _ _ ht
  have l5 : (evKey e.r e.pr e.s e.d e.sp e.dp).length ≤ 300 := by
    unfold evKey
    split
    · simp
    · exact keyTextL_len _ _ _ _ _ b.key.r0 b.key.r1 b.key.sp0 b.key.sp1 b.key.dp0 b.key.dp1
  have hj : e.text.length = (dec e.n).length + (wordOf e.sd).length + (verdictOf e.r).length + (nameOf e.r).length + (evKey e.r e.pr e.s e.d e.sp e.dp).length + 4 := by
    unfold Ev.text evText
    simp [Lib.join]; omega
  omega
end Go.Ab
