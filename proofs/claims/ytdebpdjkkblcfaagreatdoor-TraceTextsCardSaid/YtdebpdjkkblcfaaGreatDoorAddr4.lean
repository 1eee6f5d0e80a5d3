/- Numbers, addresses, prefixes, ranges and keys read: what the reading functions of package addr return. -/
import Derived.Test.YtdebpdjkkblcfaaGreatDoorAddr2
namespace Go.Ab
def numV (b : Int) (l : List UInt8) : Int := atoiV l % b
def numOk (b : Int) (l : List UInt8) : Bool := atoiOk l && (dec (numV b l) == l)
theorem numV_bd (l : List UInt8) : 0 ≤ numV 256 l ∧ numV 256 l < 256 := by unfold numV; omega
def accL (f : Nat → List UInt8) : Nat → Int
  | 0 => 0
  | k + 1 => accL f k * 256 + numV 256 (f k)
theorem accL_bd (f : Nat → List UInt8) : ∀ k, 0 ≤ accL f k ∧ accL f k < 256 ^ k
  | 0 => by simp [accL]
  | k + 1 => by
    have ih := accL_bd f k
    have := numV_bd (f k)
    unfold accL
    rw [Int.pow_succ]; omega
def fourL (a b c d : List UInt8) : Nat → List UInt8 | 0 => a | 1 => b | 2 => c | _ => d
def readL (l : List UInt8) : Option Int :=
  match splitC 46 l with
  | [a, b, c, d] => if numOk 256 a && numOk 256 b && numOk 256 c && numOk 256 d then some (accL (fourL a b c d) 4) else none
  | _ => none
def readV (l : List UInt8) : Value := match readL l with | some a => .tuple #[.int .u32 a, .int .i64 0] | none => .tuple #[.int .u32 0, .int .i64 30]
theorem readL_not4 (l : List UInt8) (h : (splitC 46 l).length ≠ 4) : readL l = none := by
  unfold readL
  split
  · rename_i a b c d e; rw [e] at h; simp at h
  · rfl
theorem shl_or (a n : Int) (h0 : 0 ≤ a) (h1 : a < 16777216) (n0 : 0 ≤ n) (n1 : n < 256) : bits .or .u32 (a * 256) n = a * 256 + n := by
  obtain ⟨m, rfl⟩ := Int.eq_ofNat_of_zero_le h0
  obtain ⟨k, rfl⟩ := Int.eq_ofNat_of_zero_le n0
  rw [show ((m : Int) * 256) = ((m * 256 : Nat) : Int) by omega, u32_or_nat _ _ (by omega) (by omega), nat_join 8 (m * 256) k (by omega) (by omega)]
  omega
theorem list4 {α : Type} (l : List α) (h : l.length = 4) : ∃ a b c d, l = [a, b, c, d] := by
  match l, h with
  | [a, b, c, d], _ => exact ⟨a, b, c, d, rfl⟩
end Go.Ab
namespace Go.Proofs.YtdebpdjkkblcfaaGreatDoor
open Go.RowKit Go.Ab

set_option maxHeartbeats 400000 in
theorem number8_any (l : List UInt8) (w : World) (g : Good w) (hs : l.length ≤ 281474976710656) :
    Gives Tryz.prog 71 #[.string ⟨l.toArray⟩] w (.tuple #[.int .u8 (numV 256 l), .bool (numOk 256 l)]) := by
  unfold Gives
  obtain ⟨v0, v1⟩ := atoiV_bounds l
  have hw : IntKind.u8.wrap (atoiV l) = numV 256 l := by rw [IntKind.wrap_u8]; rfl
  have n0 : 0 ≤ numV 256 l ∧ numV 256 l < 256 := by unfold numV; omega
  obtain ⟨n0, n1⟩ := n0
  cases hok : atoiOk l
  · have e : numOk 256 l = false := by simp [numOk, hok]
    have He := Lib.hid e
    have hc := atoi_bad l w g hs hok
    have Hc := Lib.hid hc
    clear e hok hc
    go_enter Tryz.func71, Tryz.ntmps71
    go_wp2_with (go_at_call 43; refine Hc.out.mono ?_; rintro e w' ⟨N, rfl, x, rfl⟩)
    go_ret2
    exact ⟨by rw [He.out]; rfl, Up.mk (by repeat (with_reducible first | exact Up.refl _ | refine Up.ext ?_ _ | refine Up.drew ?_ | refine Up.alloc ?_ _ | refine Up.setCell ?_ (by simp) _))⟩
  · have e : numOk 256 l = (dec (numV 256 l) == l) := by simp [numOk, hok]
    have He := Lib.hid e
    have hc := atoi_ok l w hs hok
    have Hc := Lib.hid hc
    clear e hok hc
    go_enter Tryz.func71, Tryz.ntmps71
    go_wp2_with (first | (go_at_call 43; refine Hc.out.mono ?_; rintro e w' ⟨rfl, x, rfl⟩) | (go_at_call 61; refine (decimal8_any (numV 256 l) _ (g.up (by repeat (with_reducible first | exact Up.refl _ | refine Up.ext ?_ _ | refine Up.drew ?_ | refine Up.alloc ?_ _ | refine Up.setCell ?_ (by simp) _))) n0 n1).mono ?_; rintro e w' ⟨rfl, y, rfl⟩))
    go_ret2
    exact ⟨by rw [He.out]; rfl, Up.mk (by repeat (with_reducible first | exact Up.refl _ | refine Up.ext ?_ _ | refine Up.drew ?_ | refine Up.alloc ?_ _ | refine Up.setCell ?_ (by simp) _))⟩

set_option maxHeartbeats 400000 in
theorem number16_any (l : List UInt8) (w : World) (g : Good w) (hs : l.length ≤ 281474976710656) :
    Gives Tryz.prog 73 #[.string ⟨l.toArray⟩] w (.tuple #[.int .u16 (numV 65536 l), .bool (numOk 65536 l)]) := by
  unfold Gives
  obtain ⟨v0, v1⟩ := atoiV_bounds l
  have hw : IntKind.u16.wrap (atoiV l) = numV 65536 l := by rw [IntKind.wrap_u16]; rfl
  have n0 : 0 ≤ numV 65536 l ∧ numV 65536 l < 65536 := by unfold numV; omega
  obtain ⟨n0, n1⟩ := n0
  cases hok : atoiOk l
  · have e : numOk 65536 l = false := by simp [numOk, hok]
    have He := Lib.hid e
    have hc := atoi_bad l w g hs hok
    have Hc := Lib.hid hc
    clear e hok hc
    go_enter Tryz.func73, Tryz.ntmps73
    go_wp2_with (go_at_call 43; refine Hc.out.mono ?_; rintro e w' ⟨N, rfl, x, rfl⟩)
    go_ret2
    exact ⟨by rw [He.out]; rfl, Up.mk (by repeat (with_reducible first | exact Up.refl _ | refine Up.ext ?_ _ | refine Up.drew ?_ | refine Up.alloc ?_ _ | refine Up.setCell ?_ (by simp) _))⟩
  · have e : numOk 65536 l = (dec (numV 65536 l) == l) := by simp [numOk, hok]
    have He := Lib.hid e
    have hc := atoi_ok l w hs hok
    have Hc := Lib.hid hc
    clear e hok hc
    go_enter Tryz.func73, Tryz.ntmps73
    go_wp2_with (first | (go_at_call 43; refine Hc.out.mono ?_; rintro e w' ⟨rfl, x, rfl⟩) | (go_at_call 63; refine (decimal16_any (numV 65536 l) _ (g.up (by repeat (with_reducible first | exact Up.refl _ | refine Up.ext ?_ _ | refine Up.drew ?_ | refine Up.alloc ?_ _ | refine Up.setCell ?_ (by simp) _))) n0 n1).mono ?_; rintro e w' ⟨rfl, y, rfl⟩))
    go_ret2
    exact ⟨by rw [He.out]; rfl, Up.mk (by repeat (with_reducible first | exact Up.refl _ | refine Up.ext ?_ _ | refine Up.drew ?_ | refine Up.alloc ?_ _ | refine Up.setCell ?_ (by simp) _))⟩

set_option maxHeartbeats 1000000 in
theorem read_not4 (l : List UInt8) (w : World) (g : Good w) (hs : l.length < 4294967281) (h : (splitC 46 l).length ≠ 4) :
    Gives Tryz.prog 72 #[.string ⟨l.toArray⟩] w (.tuple #[.int .u32 0, .int .i64 30]) := by
  unfold Gives
  obtain ⟨p, t, e⟩ := splitC_ex 46 l
  have hp := splitC_len 46 l p (by rw [e]; simp)
  have hsp := split_any l 46 w g hs
  rw [e] at h hsp
  simp only [List.length_cons, List.map_cons] at h hsp
  have Hsp := Lib.hid hsp
  have h4 : (((t.length : Int) + 1) != 4) = true := by simp; omega
  have h0 : (0 : Int) < (t.length : Int) + 1 := by omega
  clear hsp h e
  cases hk : numOk 256 p
  all_goals
    have Hk := Lib.hid hk
    clear hk
    go_enter Tryz.func72, Tryz.ntmps72
    go_wp2_with (go_at_call 92; refine Hsp.out.mono ?_; rintro e w' ⟨rfl, rfl⟩)
    refine wp_loop_rounds 1 ?_
    rw [rounds_succ]
    go_wp2_with (go_at_call 71; refine ((number8_any p _ (g.up (by repeat (with_reducible first | exact Up.refl _ | refine Up.ext ?_ _ | refine Up.drew ?_ | refine Up.alloc ?_ _ | refine Up.setCell ?_ (by simp) _))) (by omega)).cast (by rw [Hk.out])).mono ?_; rintro e w' ⟨rfl, x, rfl⟩)
    go_ret2
    exact ⟨rfl, Up.mk (by repeat (with_reducible first | exact Up.refl _ | refine Up.ext ?_ _ | refine Up.drew ?_ | refine Up.alloc ?_ _ | refine Up.setCell ?_ (by simp) _))⟩
set_option maxHeartbeats 4000000 in
theorem read_4 (l p0 p1 p2 p3 : List UInt8) (w : World) (g : Good w) (hs : l.length < 4294967281) (h : splitC 46 l = [p0, p1, p2, p3]) :
    Gives Tryz.prog 72 #[.string ⟨l.toArray⟩] w (readV l) := by
  unfold Gives
  have hl0 := splitC_len 46 l p0 (by rw [h]; simp)
  have hl1 := splitC_len 46 l p1 (by rw [h]; simp)
  have hl2 := splitC_len 46 l p2 (by rw [h]; simp)
  have hl3 := splitC_len 46 l p3 (by rw [h]; simp)
  have hsp := split_any l 46 w g hs
  rw [h] at hsp
  simp only [List.length_cons, List.length_nil, List.map_cons, List.map_nil, Nat.zero_add, Nat.reduceAdd] at hsp
  have Hsp := Lib.hid hsp
  have He := Lib.hid h
  clear hsp h
  go_enter Tryz.func72, Tryz.ntmps72
  go_wp2_with (go_at_call 92; refine Hsp.out.mono ?_; rintro e w' ⟨rfl, rfl⟩)
  go_loopw [4, 14] (fun a i wr => ∃ (k : Nat) (i' : Int), k ≤ 4 ∧ a = .int .u32 (accL (fourL p0 p1 p2 p3) k) ∧ i = .int .i64 i' ∧ Hid (i' = k) ∧ Hid (∀ j, j < k → numOk 256 (fourL p0 p1 p2 p3 j) = true) ∧
      ∃ x : Ext (w.alloc (.cells #[.string ⟨p0.toArray⟩, .string ⟨p1.toArray⟩, .string ⟨p2.toArray⟩, .string ⟨p3.toArray⟩] 9)), wr = x.w) (fun _ i _ => 4 - (intOf i).toNat)
  case atStart => exact ⟨0, 0, by omega, rfl, rfl, rfl, (fun j hj => by omega), (Up.refl _).mk⟩
  case round =>
    obtain ⟨k, i', hk4, rfl, rfl, hi, hok, x, rfl⟩ := hrel
    rcases (by omega : k = 0 ∨ k = 1 ∨ k = 2 ∨ k = 3 ∨ k = 4) with rfl | rfl | rfl | rfl | rfl
    · obtain rfl : i' = 0 := by have := hi.out; omega
      clear hi
      have hb := accL_bd (fourL p0 p1 p2 p3) 0
      simp only [Int.reducePow] at hb
      obtain ⟨hb0, hb1⟩ := hb
      have nb := numV_bd p0
      obtain ⟨nb0, nb1⟩ := nb
      have Hor : Hid (bits .or .u32 (accL (fourL p0 p1 p2 p3) 0 * 256) (numV 256 p0) = accL (fourL p0 p1 p2 p3) 1) := shl_or _ _ hb0 (by omega) nb0 nb1
      cases hk : numOk 256 p0
      · have Hk := Lib.hid hk
        have Hr : Hid (readL l = none) := by unfold Hid readL; rw [He.out]; simp [hk]
        clear hk
        go_wp2_with (go_at_call 71; refine ((number8_any p0 _ (g.up (by repeat (with_reducible first | exact Up.refl _ | refine Up.ext ?_ _ | refine Up.drew ?_ | refine Up.alloc ?_ _ | refine Up.setCell ?_ (by simp) _))) (by omega)).cast (by rw [Hk.out])).mono ?_; rintro e w' ⟨rfl, y, rfl⟩)
        go_ret2
        exact ⟨by unfold readV; rw [Hr.out]; rfl, Up.mk (by repeat (with_reducible first | exact Up.refl _ | refine Up.ext ?_ _ | refine Up.drew ?_ | refine Up.alloc ?_ _ | refine Up.setCell ?_ (by simp) _))⟩
      · have Hk := Lib.hid hk
        clear hk
        go_wp2_with (go_at_call 71; refine ((number8_any p0 _ (g.up (by repeat (with_reducible first | exact Up.refl _ | refine Up.ext ?_ _ | refine Up.drew ?_ | refine Up.alloc ?_ _ | refine Up.setCell ?_ (by simp) _))) (by omega)).cast (by rw [Hk.out])).mono ?_; rintro e w' ⟨rfl, y, rfl⟩)
        go_roundw
        case rel => exact ⟨1, 1, by omega, by rw [Hor.out], rfl, rfl, lt_succ_all hok.out Hk.out, (x.up.ext y).mk⟩
        case measure => simp [intOf]
    · obtain rfl : i' = 1 := by have := hi.out; omega
      clear hi
      have hb := accL_bd (fourL p0 p1 p2 p3) 1
      simp only [Int.reducePow] at hb
      obtain ⟨hb0, hb1⟩ := hb
      have nb := numV_bd p1
      obtain ⟨nb0, nb1⟩ := nb
      have Hor : Hid (bits .or .u32 (accL (fourL p0 p1 p2 p3) 1 * 256) (numV 256 p1) = accL (fourL p0 p1 p2 p3) 2) := shl_or _ _ hb0 (by omega) nb0 nb1
      cases hk : numOk 256 p1
      · have Hk := Lib.hid hk
        have Hr : Hid (readL l = none) := by unfold Hid readL; rw [He.out]; simp [hk]
        clear hk
        go_wp2_with (go_at_call 71; refine ((number8_any p1 _ (g.up (by repeat (with_reducible first | exact Up.refl _ | refine Up.ext ?_ _ | refine Up.drew ?_ | refine Up.alloc ?_ _ | refine Up.setCell ?_ (by simp) _))) (by omega)).cast (by rw [Hk.out])).mono ?_; rintro e w' ⟨rfl, y, rfl⟩)
        go_ret2
        exact ⟨by unfold readV; rw [Hr.out]; rfl, Up.mk (by repeat (with_reducible first | exact Up.refl _ | refine Up.ext ?_ _ | refine Up.drew ?_ | refine Up.alloc ?_ _ | refine Up.setCell ?_ (by simp) _))⟩
      · have Hk := Lib.hid hk
        clear hk
        go_wp2_with (go_at_call 71; refine ((number8_any p1 _ (g.up (by repeat (with_reducible first | exact Up.refl _ | refine Up.ext ?_ _ | refine Up.drew ?_ | refine Up.alloc ?_ _ | refine Up.setCell ?_ (by simp) _))) (by omega)).cast (by rw [Hk.out])).mono ?_; rintro e w' ⟨rfl, y, rfl⟩)
        go_roundw
        case rel => exact ⟨2, 2, by omega, by rw [Hor.out], rfl, rfl, lt_succ_all hok.out Hk.out, (x.up.ext y).mk⟩
        case measure => simp [intOf]
    · obtain rfl : i' = 2 := by have := hi.out; omega
      clear hi
      have hb := accL_bd (fourL p0 p1 p2 p3) 2
      simp only [Int.reducePow] at hb
      obtain ⟨hb0, hb1⟩ := hb
      have nb := numV_bd p2
      obtain ⟨nb0, nb1⟩ := nb
      have Hor : Hid (bits .or .u32 (accL (fourL p0 p1 p2 p3) 2 * 256) (numV 256 p2) = accL (fourL p0 p1 p2 p3) 3) := shl_or _ _ hb0 (by omega) nb0 nb1
      cases hk : numOk 256 p2
      · have Hk := Lib.hid hk
        have Hr : Hid (readL l = none) := by unfold Hid readL; rw [He.out]; simp [hk]
        clear hk
        go_wp2_with (go_at_call 71; refine ((number8_any p2 _ (g.up (by repeat (with_reducible first | exact Up.refl _ | refine Up.ext ?_ _ | refine Up.drew ?_ | refine Up.alloc ?_ _ | refine Up.setCell ?_ (by simp) _))) (by omega)).cast (by rw [Hk.out])).mono ?_; rintro e w' ⟨rfl, y, rfl⟩)
        go_ret2
        exact ⟨by unfold readV; rw [Hr.out]; rfl, Up.mk (by repeat (with_reducible first | exact Up.refl _ | refine Up.ext ?_ _ | refine Up.drew ?_ | refine Up.alloc ?_ _ | refine Up.setCell ?_ (by simp) _))⟩
      · have Hk := Lib.hid hk
        clear hk
        go_wp2_with (go_at_call 71; refine ((number8_any p2 _ (g.up (by repeat (with_reducible first | exact Up.refl _ | refine Up.ext ?_ _ | refine Up.drew ?_ | refine Up.alloc ?_ _ | refine Up.setCell ?_ (by simp) _))) (by omega)).cast (by rw [Hk.out])).mono ?_; rintro e w' ⟨rfl, y, rfl⟩)
        go_roundw
        case rel => exact ⟨3, 3, by omega, by rw [Hor.out], rfl, rfl, lt_succ_all hok.out Hk.out, (x.up.ext y).mk⟩
        case measure => simp [intOf]
    · obtain rfl : i' = 3 := by have := hi.out; omega
      clear hi
      have hb := accL_bd (fourL p0 p1 p2 p3) 3
      simp only [Int.reducePow] at hb
      obtain ⟨hb0, hb1⟩ := hb
      have nb := numV_bd p3
      obtain ⟨nb0, nb1⟩ := nb
      have Hor : Hid (bits .or .u32 (accL (fourL p0 p1 p2 p3) 3 * 256) (numV 256 p3) = accL (fourL p0 p1 p2 p3) 4) := shl_or _ _ hb0 (by omega) nb0 nb1
      cases hk : numOk 256 p3
      · have Hk := Lib.hid hk
        have Hr : Hid (readL l = none) := by unfold Hid readL; rw [He.out]; simp [hk]
        clear hk
        go_wp2_with (go_at_call 71; refine ((number8_any p3 _ (g.up (by repeat (with_reducible first | exact Up.refl _ | refine Up.ext ?_ _ | refine Up.drew ?_ | refine Up.alloc ?_ _ | refine Up.setCell ?_ (by simp) _))) (by omega)).cast (by rw [Hk.out])).mono ?_; rintro e w' ⟨rfl, y, rfl⟩)
        go_ret2
        exact ⟨by unfold readV; rw [Hr.out]; rfl, Up.mk (by repeat (with_reducible first | exact Up.refl _ | refine Up.ext ?_ _ | refine Up.drew ?_ | refine Up.alloc ?_ _ | refine Up.setCell ?_ (by simp) _))⟩
      · have Hk := Lib.hid hk
        clear hk
        go_wp2_with (go_at_call 71; refine ((number8_any p3 _ (g.up (by repeat (with_reducible first | exact Up.refl _ | refine Up.ext ?_ _ | refine Up.drew ?_ | refine Up.alloc ?_ _ | refine Up.setCell ?_ (by simp) _))) (by omega)).cast (by rw [Hk.out])).mono ?_; rintro e w' ⟨rfl, y, rfl⟩)
        go_roundw
        case rel => exact ⟨4, 4, by omega, by rw [Hor.out], rfl, rfl, lt_succ_all hok.out Hk.out, (x.up.ext y).mk⟩
        case measure => simp [intOf]
    · obtain rfl : i' = 4 := by have := hi.out; omega
      clear hi
      have Hr : Hid (readL l = some (accL (fourL p0 p1 p2 p3) 4)) := by
        have h0 := hok.out 0 (by omega); have h1 := hok.out 1 (by omega); have h2 := hok.out 2 (by omega); have h3 := hok.out 3 (by omega)
        simp only [fourL] at h0 h1 h2 h3
        unfold Hid readL; rw [He.out]; simp [h0, h1, h2, h3]
      go_wp2_with fail
      go_ret2
      exact ⟨by unfold readV; rw [Hr.out]; rfl, Up.mk (by repeat (with_reducible first | exact Up.refl _ | refine Up.ext ?_ _ | refine Up.drew ?_ | refine Up.alloc ?_ _ | refine Up.setCell ?_ (by simp) _))⟩
theorem read_any (l : List UInt8) (w : World) (g : Good w) (hs : l.length < 4294967281) : Gives Tryz.prog 72 #[.string ⟨l.toArray⟩] w (readV l) := by
  by_cases h : (splitC 46 l).length = 4
  · obtain ⟨a, b, c, d, e⟩ := list4 _ h
    exact read_4 l a b c d w g hs e
  · have e := readL_not4 l h
    unfold readV
    rw [e]
    exact read_not4 l w g hs h
end Go.Proofs.YtdebpdjkkblcfaaGreatDoor
