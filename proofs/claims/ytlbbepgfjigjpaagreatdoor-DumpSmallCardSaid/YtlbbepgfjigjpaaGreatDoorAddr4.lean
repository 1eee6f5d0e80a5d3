/- Numbers, addresses, prefixes, ranges and keys read: what the reading functions of package addr return. Ranges read: what ReadRange of package addr returns. Prefixes, ranges and keys read: what the reading functions of package addr return. Keys read: what ReadKey of package addr returns. -/
import Derived.Test.YtlbbepgfjigjpaaGreatDoorAddr2
namespace Go.Ab
def numV (b : Int) (l : List UInt8) : Int := atoiV l % b
def numOk (b : Int) (l : List UInt8) : Bool := atoiOk l && (dec (numV b l) == l)
theorem numV_bd (l : List UInt8) : 0 ≤ numV 256 l ∧ numV 256 l < 256 := by unfold numV; omega
def accL (f : Nat → List UInt8) : Nat → Int
  | 0 => 0
  | k + 1 => accL f k * 256 + numV 256 (f k)
theorem accL_bd (f : Nat → List UInt8) : ∀ k, 0 ≤ accL f k ∧ accL f k < 256 ^ k
  | 0 => by simp [accL]
  | k + 1 => by
    have ih := accL_bd f k
    have := numV_bd (f k)
    unfold accL
    rw [Int.pow_succ]; omega
def fourL (a b c d : List UInt8) : Nat → List UInt8 | 0 => a | 1 => b | 2 => c | _ => d
def readL (l : List UInt8) : Option Int :=
  match splitC 46 l with
  | [a, b, c, d] => if numOk 256 a && numOk 256 b && numOk 256 c && numOk 256 d then some (accL (fourL a b c d) 4) else none
  | _ => none
def readV (l : List UInt8) : Value := match readL l with | some a => .tuple #[.int .u32 a, .int .i64 0] | none => .tuple #[.int .u32 0, .int .i64 30]
theorem readL_not4 (l : List UInt8) (h : (splitC 46 l).length ≠ 4) : readL l = none := by
  unfold readL
  split
  · rename_i a b c d e; rw [e] at h; simp at h
  · rfl
theorem shl_or (a n : Int) (h0 : 0 ≤ a) (h1 : a < 16777216) (n0 : 0 ≤ n) (n1 : n < 256) : bits .or .u32 (a * 256) n = a * 256 + n := by
  obtain ⟨m, rfl⟩ := Int.eq_ofNat_of_zero_le h0
  obtain ⟨k, rfl⟩ := Int.eq_ofNat_of_zero_le n0
  rw [show ((m : Int) * 256) = ((m * 256 : Nat) : Int) by omega, u32_or_nat _ _ (by omega) (by omega), nat_join 8 (m * 256) k (by omega) (by omega)]
  omega
theorem list4 {α : Type} (l : List α) (h : l.length = 4) : ∃ a b c d, l = [a, b, c, d] := by
  match l, h with
  | [a, b, c, d], _ => exact ⟨a, b, c, d, rfl⟩
end Go.Ab
namespace Go.Proofs.YtlbbepgfjigjpaaGreatDoor
open Go.RowKit Go.Ab

set_option maxHeartbeats 400000 in
theorem number8_any (l : List UInt8) (w : World) (g : Good w) (hs : l.length ≤ 281474976710656) :
    Gives Tryz.prog 80 #[.string ⟨l.toArray⟩] w (.tuple #[.int .u8 (numV 256 l), .bool (numOk 256 l)]) := by
  unfold Gives
  obtain ⟨v0, v1⟩ := atoiV_bounds l
  have hw : IntKind.u8.wrap (atoiV l) = numV 256 l := by rw [IntKind.wrap_u8]; rfl
  have n0 : 0 ≤ numV 256 l ∧ numV 256 l < 256 := by unfold numV; omega
  obtain ⟨n0, n1⟩ := n0
  cases hok : atoiOk l
  · have e : numOk 256 l = false := by simp [numOk, hok]
    have He := Lib.hid e
    have hc := atoi_bad l w g hs hok
    have Hc := Lib.hid hc
    clear e hok hc
    go_enter Tryz.func80, Tryz.ntmps80
    go_wp2_with (go_at_call 48; refine Hc.out.mono ?_; rintro e w' ⟨N, rfl, x, rfl⟩)
    go_ret2
    exact ⟨by rw [He.out]; rfl, Up.mk (by repeat (with_reducible first | exact Up.refl _ | refine Up.ext ?_ _ | refine Up.drew ?_ | refine Up.alloc ?_ _ | refine Up.setCell ?_ (by simp) _))⟩
  · have e : numOk 256 l = (dec (numV 256 l) == l) := by simp [numOk, hok]
    have He := Lib.hid e
    have hc := atoi_ok l w hs hok
    have Hc := Lib.hid hc
    clear e hok hc
    go_enter Tryz.func80, Tryz.ntmps80
    go_wp2_with (first | (go_at_call 48; refine Hc.out.mono ?_; rintro e w' ⟨rfl, x, rfl⟩) | (go_at_call 76; refine (decimal8_any (numV 256 l) _ (g.up (by repeat (with_reducible first | exact Up.refl _ | refine Up.ext ?_ _ | refine Up.drew ?_ | refine Up.alloc ?_ _ | refine Up.setCell ?_ (by simp) _))) n0 n1).mono ?_; rintro e w' ⟨rfl, y, rfl⟩))
    go_ret2
    exact ⟨by rw [He.out]; rfl, Up.mk (by repeat (with_reducible first | exact Up.refl _ | refine Up.ext ?_ _ | refine Up.drew ?_ | refine Up.alloc ?_ _ | refine Up.setCell ?_ (by simp) _))⟩

set_option maxHeartbeats 400000 in
theorem number16_any (l : List UInt8) (w : World) (g : Good w) (hs : l.length ≤ 281474976710656) :
    Gives Tryz.prog 82 #[.string ⟨l.toArray⟩] w (.tuple #[.int .u16 (numV 65536 l), .bool (numOk 65536 l)]) := by
  unfold Gives
  obtain ⟨v0, v1⟩ := atoiV_bounds l
  have hw : IntKind.u16.wrap (atoiV l) = numV 65536 l := by rw [IntKind.wrap_u16]; rfl
  have n0 : 0 ≤ numV 65536 l ∧ numV 65536 l < 65536 := by unfold numV; omega
  obtain ⟨n0, n1⟩ := n0
  cases hok : atoiOk l
  · have e : numOk 65536 l = false := by simp [numOk, hok]
    have He := Lib.hid e
    have hc := atoi_bad l w g hs hok
    have Hc := Lib.hid hc
    clear e hok hc
    go_enter Tryz.func82, Tryz.ntmps82
    go_wp2_with (go_at_call 48; refine Hc.out.mono ?_; rintro e w' ⟨N, rfl, x, rfl⟩)
    go_ret2
    exact ⟨by rw [He.out]; rfl, Up.mk (by repeat (with_reducible first | exact Up.refl _ | refine Up.ext ?_ _ | refine Up.drew ?_ | refine Up.alloc ?_ _ | refine Up.setCell ?_ (by simp) _))⟩
  · have e : numOk 65536 l = (dec (numV 65536 l) == l) := by simp [numOk, hok]
    have He := Lib.hid e
    have hc := atoi_ok l w hs hok
    have Hc := Lib.hid hc
    clear e hok hc
    go_enter Tryz.func82, Tryz.ntmps82
    go_wp2_with (first | (go_at_call 48; refine Hc.out.mono ?_; rintro e w' ⟨rfl, x, rfl⟩) | (go_at_call 78; refine (decimal16_any (numV 65536 l) _ (g.up (by repeat (with_reducible first | exact Up.refl _ | refine Up.ext ?_ _ | refine Up.drew ?_ | refine Up.alloc ?_ _ | refine Up.setCell ?_ (by simp) _))) n0 n1).mono ?_; rintro e w' ⟨rfl, y, rfl⟩))
    go_ret2
    exact ⟨by rw [He.out]; rfl, Up.mk (by repeat (with_reducible first | exact Up.refl _ | refine Up.ext ?_ _ | refine Up.drew ?_ | refine Up.alloc ?_ _ | refine Up.setCell ?_ (by simp) _))⟩

set_option maxHeartbeats 1000000 in
theorem read_not4 (l : List UInt8) (w : World) (g : Good w) (hs : l.length < 4294967281) (h : (splitC 46 l).length ≠ 4) :
    Gives Tryz.prog 81 #[.string ⟨l.toArray⟩] w (.tuple #[.int .u32 0, .int .i64 30]) := by
  unfold Gives
  obtain ⟨p, t, e⟩ := splitC_ex 46 l
  have hp := splitC_len 46 l p (by rw [e]; simp)
  have hsp := split_any l 46 w g hs
  rw [e] at h hsp
  simp only [List.length_cons, List.map_cons] at h hsp
  have Hsp := Lib.hid hsp
  have h4 : (((t.length : Int) + 1) != 4) = true := by simp; omega
  have h0 : (0 : Int) < (t.length : Int) + 1 := by omega
  clear hsp h e
  cases hk : numOk 256 p
  all_goals
    have Hk := Lib.hid hk
    clear hk
    go_enter Tryz.func81, Tryz.ntmps81
    go_wp2_with (go_at_call 46; refine Hsp.out.mono ?_; rintro e w' ⟨rfl, rfl⟩)
    refine wp_loop_rounds 1 ?_
    rw [rounds_succ]
    go_wp2_with (go_at_call 80; refine ((number8_any p _ (g.up (by repeat (with_reducible first | exact Up.refl _ | refine Up.ext ?_ _ | refine Up.drew ?_ | refine Up.alloc ?_ _ | refine Up.setCell ?_ (by simp) _))) (by omega)).cast (by rw [Hk.out])).mono ?_; rintro e w' ⟨rfl, x, rfl⟩)
    go_ret2
    exact ⟨rfl, Up.mk (by repeat (with_reducible first | exact Up.refl _ | refine Up.ext ?_ _ | refine Up.drew ?_ | refine Up.alloc ?_ _ | refine Up.setCell ?_ (by simp) _))⟩
set_option maxHeartbeats 4000000 in
theorem read_4 (l p0 p1 p2 p3 : List UInt8) (w : World) (g : Good w) (hs : l.length < 4294967281) (h : splitC 46 l = [p0, p1, p2, p3]) :
    Gives Tryz.prog 81 #[.string ⟨l.toArray⟩] w (readV l) := by
  unfold Gives
  have hl0 := splitC_len 46 l p0 (by rw [h]; simp)
  have hl1 := splitC_len 46 l p1 (by rw [h]; simp)
  have hl2 := splitC_len 46 l p2 (by rw [h]; simp)
  have hl3 := splitC_len 46 l p3 (by rw [h]; simp)
  have hsp := split_any l 46 w g hs
  rw [h] at hsp
  simp only [List.length_cons, List.length_nil, List.map_cons, List.map_nil, Nat.zero_add, Nat.reduceAdd] at hsp
  have Hsp := Lib.hid hsp
  have He := Lib.hid h
  clear hsp h
  go_enter Tryz.func81, Tryz.ntmps81
  go_wp2_with (go_at_call 46; refine Hsp.out.mono ?_; rintro e w' ⟨rfl, rfl⟩)
  go_loopw [4, 14] (fun a i wr => ∃ (k : Nat) (i' : Int), k ≤ 4 ∧ a = .int .u32 (accL (fourL p0 p1 p2 p3) k) ∧ i = .int .i64 i' ∧ Hid (i' = k) ∧ Hid (∀ j, j < k → numOk 256 (fourL p0 p1 p2 p3 j) = true) ∧
      ∃ x : Ext (w.alloc (.cells #[.string ⟨p0.toArray⟩, .string ⟨p1.toArray⟩, .string ⟨p2.toArray⟩, .string ⟨p3.toArray⟩] 9)), wr = x.w) (fun _ i _ => 4 - (intOf i).toNat)
  case atStart => exact ⟨0, 0, by omega, rfl, rfl, rfl, (fun j hj => by omega), (Up.refl _).mk⟩
  case round =>
    obtain ⟨k, i', hk4, rfl, rfl, hi, hok, x, rfl⟩ := hrel
    rcases (by omega : k = 0 ∨ k = 1 ∨ k = 2 ∨ k = 3 ∨ k = 4) with rfl | rfl | rfl | rfl | rfl
    · obtain rfl : i' = 0 := by have := hi.out; omega
      clear hi
      have hb := accL_bd (fourL p0 p1 p2 p3) 0
      simp only [Int.reducePow] at hb
      obtain ⟨hb0, hb1⟩ := hb
      have nb := numV_bd p0
      obtain ⟨nb0, nb1⟩ := nb
      have Hor : Hid (bits .or .u32 (accL (fourL p0 p1 p2 p3) 0 * 256) (numV 256 p0) = accL (fourL p0 p1 p2 p3) 1) := shl_or _ _ hb0 (by omega) nb0 nb1
      cases hk : numOk 256 p0
      · have Hk := Lib.hid hk
        have Hr : Hid (readL l = none) := by unfold Hid readL; rw [He.out]; simp [hk]
        clear hk
        go_wp2_with (go_at_call 80; refine ((number8_any p0 _ (g.up (by repeat (with_reducible first | exact Up.refl _ | refine Up.ext ?_ _ | refine Up.drew ?_ | refine Up.alloc ?_ _ | refine Up.setCell ?_ (by simp) _))) (by omega)).cast (by rw [Hk.out])).mono ?_; rintro e w' ⟨rfl, y, rfl⟩)
        go_ret2
        exact ⟨by unfold readV; rw [Hr.out]; rfl, Up.mk (by repeat (with_reducible first | exact Up.refl _ | refine Up.ext ?_ _ | refine Up.drew ?_ | refine Up.alloc ?_ _ | refine Up.setCell ?_ (by simp) _))⟩
      · have Hk := Lib.hid hk
        clear hk
        go_wp2_with (go_at_call 80; refine ((number8_any p0 _ (g.up (by repeat (with_reducible first | exact Up.refl _ | refine Up.ext ?_ _ | refine Up.drew ?_ | refine Up.alloc ?_ _ | refine Up.setCell ?_ (by simp) _))) (by omega)).cast (by rw [Hk.out])).mono ?_; rintro e w' ⟨rfl, y, rfl⟩)
        go_roundw
        case rel => exact ⟨1, 1, by omega, by rw [Hor.out], rfl, rfl, lt_succ_all hok.out Hk.out, (x.up.ext y).mk⟩
        case measure => simp [intOf]
    · obtain rfl : i' = 1 := by have := hi.out; omega
      clear hi
      have hb := accL_bd (fourL p0 p1 p2 p3) 1
      simp only [Int.reducePow] at hb
      obtain ⟨hb0, hb1⟩ := hb
      have nb := numV_bd p1
      obtain ⟨nb0, nb1⟩ := nb
      have Hor : Hid (bits .or .u32 (accL (fourL p0 p1 p2 p3) 1 * 256) (numV 256 p1) = accL (fourL p0 p1 p2 p3) 2) := shl_or _ _ hb0 (by omega) nb0 nb1
      cases hk : numOk 256 p1
      · have Hk := Lib.hid hk
        have Hr : Hid (readL l = none) := by unfold Hid readL; rw [He.out]; simp [hk]
        clear hk
        go_wp2_with (go_at_call 80; refine ((number8_any p1 _ (g.up (by repeat (with_reducible first | exact Up.refl _ | refine Up.ext ?_ _ | refine Up.drew ?_ | refine Up.alloc ?_ _ | refine Up.setCell ?_ (by simp) _))) (by omega)).cast (by rw [Hk.out])).mono ?_; rintro e w' ⟨rfl, y, rfl⟩)
        go_ret2
        exact ⟨by unfold readV; rw [Hr.out]; rfl, Up.mk (by repeat (with_reducible first | exact Up.refl _ | refine Up.ext ?_ _ | refine Up.drew ?_ | refine Up.alloc ?_ _ | refine Up.setCell ?_ (by simp) _))⟩
      · have Hk := Lib.hid hk
        clear hk
        go_wp2_with (go_at_call 80; refine ((number8_any p1 _ (g.up (by repeat (with_reducible first | exact Up.refl _ | refine Up.ext ?_ _ | refine Up.drew ?_ | refine Up.alloc ?_ _ | refine Up.setCell ?_ (by simp) _))) (by omega)).cast (by rw [Hk.out])).mono ?_; rintro e w' ⟨rfl, y, rfl⟩)
        go_roundw
        case rel => exact ⟨2, 2, by omega, by rw [Hor.out], rfl, rfl, lt_succ_all hok.out Hk.out, (x.up.ext y).mk⟩
        case measure => simp [intOf]
    · obtain rfl : i' = 2 := by have := hi.out; omega
      clear hi
      have hb := accL_bd (fourL p0 p1 p2 p3) 2
      simp only [Int.reducePow] at hb
      obtain ⟨hb0, hb1⟩ := hb
      have nb := numV_bd p2
      obtain ⟨nb0, nb1⟩ := nb
      have Hor : Hid (bits .or .u32 (accL (fourL p0 p1 p2 p3) 2 * 256) (numV 256 p2) = accL (fourL p0 p1 p2 p3) 3) := shl_or _ _ hb0 (by omega) nb0 nb1
      cases hk : numOk 256 p2
      · have Hk := Lib.hid hk
        have Hr : Hid (readL l = none) := by unfold Hid readL; rw [He.out]; simp [hk]
        clear hk
        go_wp2_with (go_at_call 80; refine ((number8_any p2 _ (g.up (by repeat (with_reducible first | exact Up.refl _ | refine Up.ext ?_ _ | refine Up.drew ?_ | refine Up.alloc ?_ _ | refine Up.setCell ?_ (by simp) _))) (by omega)).cast (by rw [Hk.out])).mono ?_; rintro e w' ⟨rfl, y, rfl⟩)
        go_ret2
        exact ⟨by unfold readV; rw [Hr.out]; rfl, Up.mk (by repeat (with_reducible first | exact Up.refl _ | refine Up.ext ?_ _ | refine Up.drew ?_ | refine Up.alloc ?_ _ | refine Up.setCell ?_ (by simp) _))⟩
      · have Hk := Lib.hid hk
        clear hk
        go_wp2_with (go_at_call 80; refine ((number8_any p2 _ (g.up (by repeat (with_reducible first | exact Up.refl _ | refine Up.ext ?_ _ | refine Up.drew ?_ | refine Up.alloc ?_ _ | refine Up.setCell ?_ (by simp) _))) (by omega)).cast (by rw [Hk.out])).mono ?_; rintro e w' ⟨rfl, y, rfl⟩)
        go_roundw
        case rel => exact ⟨3, 3, by omega, by rw [Hor.out], rfl, rfl, lt_succ_all hok.out Hk.out, (x.up.ext y).mk⟩
        case measure => simp [intOf]
    · obtain rfl : i' = 3 := by have := hi.out; omega
      clear hi
      have hb := accL_bd (fourL p0 p1 p2 p3) 3
      simp only [Int.reducePow] at hb
      obtain ⟨hb0, hb1⟩ := hb
      have nb := numV_bd p3
      obtain ⟨nb0, nb1⟩ := nb
      have Hor : Hid (bits .or .u32 (accL (fourL p0 p1 p2 p3) 3 * 256) (numV 256 p3) = accL (fourL p0 p1 p2 p3) 4) := shl_or _ _ hb0 (by omega) nb0 nb1
      cases hk : numOk 256 p3
      · have Hk := Lib.hid hk
        have Hr : Hid (readL l = none) := by unfold Hid readL; rw [He.out]; simp [hk]
        clear hk
        go_wp2_with (go_at_call 80; refine ((number8_any p3 _ (g.up (by repeat (with_reducible first | exact Up.refl _ | refine Up.ext ?_ _ | refine Up.drew ?_ | refine Up.alloc ?_ _ | refine Up.setCell ?_ (by simp) _))) (by omega)).cast (by rw [Hk.out])).mono ?_; rintro e w' ⟨rfl, y, rfl⟩)
        go_ret2
        exact ⟨by unfold readV; rw [Hr.out]; rfl, Up.mk (by repeat (with_reducible first | exact Up.refl _ | refine Up.ext ?_ _ | refine Up.drew ?_ | refine Up.alloc ?_ _ | refine Up.setCell ?_ (by simp) _))⟩
      · have Hk := Lib.hid hk
        clear hk
        go_wp2_with (go_at_call 80; refine ((number8_any p3 _ (g.up (by repeat (with_reducible first | exact Up.refl _ | refine Up.ext ?_ _ | refine Up.drew ?_ | refine Up.alloc ?_ _ | refine Up.setCell ?_ (by simp) _))) (by omega)).cast (by rw [Hk.out])).mono ?_; rintro e w' ⟨rfl, y, rfl⟩)
        go_roundw
        case rel => exact ⟨4, 4, by omega, by rw [Hor.out], rfl, rfl, lt_succ_all hok.out Hk.out, (x.up.ext y).mk⟩
        case measure => simp [intOf]
    · obtain rfl : i' = 4 := by have := hi.out; omega
      clear hi
      have Hr : Hid (readL l = some (accL (fourL p0 p1 p2 p3) 4)) := by
        have h0 := hok.out 0 (by omega); have h1 := hok.out 1 (by omega); have h2 := hok.out 2 (by omega); have h3 := hok.out 3 (by omega)
        simp only [fourL] at h0 h1 h2 h3
        unfold Hid readL; rw [He.out]; simp [h0, h1, h2, h3]
      go_wp2_with fail
      go_ret2
      exact ⟨by unfold readV; rw [Hr.out]; rfl, Up.mk (by repeat (with_reducible first | exact Up.refl _ | refine Up.ext ?_ _ | refine Up.drew ?_ | refine Up.alloc ?_ _ | refine Up.setCell ?_ (by simp) _))⟩
theorem read_any (l : List UInt8) (w : World) (g : Good w) (hs : l.length < 4294967281) : Gives Tryz.prog 81 #[.string ⟨l.toArray⟩] w (readV l) := by
  by_cases h : (splitC 46 l).length = 4
  · obtain ⟨a, b, c, d, e⟩ := list4 _ h
    exact read_4 l a b c d w g hs e
  · have e := readL_not4 l h
    unfold readV
    rw [e]
    exact read_not4 l w g hs h
end Go.Proofs.YtlbbepgfjigjpaaGreatDoor
namespace Go.Ab
theorem numV16_bd (l : List UInt8) : 0 ≤ numV 65536 l ∧ numV 65536 l < 65536 := by unfold numV; omega
end Go.Ab
namespace Go.Proofs.YtlbbepgfjigjpaaGreatDoor
open Go.RowKit Go.Ab

end Go.Proofs.YtlbbepgfjigjpaaGreatDoor
namespace Go.Ab
theorem readL_bd {l : List UInt8} {a : Int} (h : readL l = some a) : 0 ≤ a ∧ a < 4294967296 := by
  unfold readL at h
  split at h
  · split at h
    · rename_i p q r s _ _
      have := accL_bd (fourL p q r s) 4
      simp only [Int.reducePow] at this
      injection h with h
      rw [h] at this; exact this
    · cases h
  · cases h
end Go.Ab
namespace Go.Proofs.YtlbbepgfjigjpaaGreatDoor
open Go.RowKit Go.Ab

end Go.Proofs.YtlbbepgfjigjpaaGreatDoor
namespace Go.Ab
def readI (l : List UInt8) : Int := (readL l).getD 0
def readE (l : List UInt8) : Int := if (readL l).isSome then 0 else 30
theorem readV_eq (l : List UInt8) : readV l = .tuple #[.int .u32 (readI l), .int .i64 (readE l)] := by
  unfold readV readI readE
  rcases h : readL l with _ | a <;> simp
theorem readI_bd (l : List UInt8) : 0 ≤ readI l ∧ readI l < 4294967296 := by
  unfold readI
  rcases h : readL l with _ | a
  · simp
  · exact readL_bd h
/-- The parts of a key that ReadKey guesses. -/
def kRest (l : List UInt8) : List UInt8 := (cutC 32 l).2.1
def kSrc (l : List UInt8) : List UInt8 := (cutC 32 (kRest l)).1
def kDst (l : List UInt8) : List UInt8 := (cutC 32 (kRest l)).2.1
def kPr (l : List UInt8) : Int := numV 256 (cutC 32 l).1
def kS (l : List UInt8) : Int := readI (cutC 58 (kSrc l)).1
def kSp (l : List UInt8) : Int := numV 65536 (cutC 58 (kSrc l)).2.1
def kD (l : List UInt8) : Int := readI (cutC 58 (kDst l)).1
def kDp (l : List UInt8) : Int := numV 65536 (cutC 58 (kDst l)).2.1
def kText (l : List UInt8) : List UInt8 := keyTextL (kPr l) (kS l) (kD l) (kSp l) (kDp l)
def readKeyV (l : List UInt8) : Value :=
  if kText l = l then .tuple #[.agg #[.int .u8 (kPr l), .int .u32 (kS l), .int .u32 (kD l), .int .u16 (kSp l), .int .u16 (kDp l)], .int .i64 0]
  else .tuple #[.agg #[.int .u8 0, .int .u32 0, .int .u32 0, .int .u16 0, .int .u16 0], .int .i64 30]
theorem kRest_len (l : List UInt8) : (kRest l).length ≤ l.length := (cutC_len 32 l).2
theorem kSrc_len (l : List UInt8) : (kSrc l).length ≤ l.length := Nat.le_trans (cutC_len 32 (kRest l)).1 (kRest_len l)
theorem kDst_len (l : List UInt8) : (kDst l).length ≤ l.length := Nat.le_trans (cutC_len 32 (kRest l)).2 (kRest_len l)
end Go.Ab
namespace Go.Proofs.YtlbbepgfjigjpaaGreatDoor
open Go.RowKit Go.Ab

set_option maxHeartbeats 4000000 in
theorem readKey_no (l : List UInt8) (w : World) (g : Good w) (hs : l.length < 4294967281) (heq : (keyTextL (kPr l) (kS l) (kD l) (kSp l) (kDp l) == l) = false) :
    Gives Tryz.prog 47 #[.string ⟨l.toArray⟩] w (Value.tuple #[.agg #[.int .u8 0, .int .u32 0, .int .u32 0, .int .u16 0, .int .u16 0], .int .i64 30]) := by
  unfold Gives
  have b1 := cutC_len 32 l
  have b2 := kRest_len l
  have b3 := kSrc_len l
  have b4 := kDst_len l
  have b5 := cutC_len 58 (kSrc l)
  have b6 := cutC_len 58 (kDst l)
  obtain ⟨b10, b11⟩ := b1
  obtain ⟨b50, b51⟩ := b5
  obtain ⟨b60, b61⟩ := b6
  obtain ⟨r0, r1⟩ := numV_bd (cutC 32 l).1
  obtain ⟨sp0, sp1⟩ := numV16_bd (cutC 58 (kSrc l)).2.1
  obtain ⟨dp0, dp1⟩ := numV16_bd (cutC 58 (kDst l)).2.1
  go_enter Tryz.func47, Tryz.ntmps47
  go_wp2_with fail
  refine (scut1_any l 32 _ (g.up (by repeat (with_reducible first | exact Up.refl _ | refine Up.ext ?_ _ | refine Up.drew ?_ | refine Up.alloc ?_ _ | refine Up.setCell ?_ (by simp) _))) hs).mono ?_
  rintro e w' ⟨rfl, x1, rfl⟩
  have hA1 : w.heap.size < x1.w.heap.size := x1.lt (by simp [go_sem])
  have hB1 : w.heap.size + 1 < x1.w.heap.size := x1.lt (by simp)
  go_wp2_with fail
  refine (scut1_any (kRest l) 32 _ (g.up (by repeat (with_reducible first | exact Up.refl _ | refine Up.ext ?_ _ | refine Up.drew ?_ | refine Up.alloc ?_ _ | refine Up.setCell ?_ (by simp) _))) (by omega)).mono ?_
  rintro e w' ⟨rfl, x2, rfl⟩
  have hA2 : w.heap.size < x2.w.heap.size := x2.lt hA1
  have hB2 : w.heap.size + 1 < x2.w.heap.size := x2.lt hB1
  go_wp2_with fail
  refine (scut1_any (kSrc l) 58 _ (g.up (by repeat (with_reducible first | exact Up.refl _ | refine Up.ext ?_ _ | refine Up.drew ?_ | refine Up.alloc ?_ _ | refine Up.setCell ?_ (by simp) _))) (by omega)).mono ?_
  rintro e w' ⟨rfl, x3, rfl⟩
  have hA3 : w.heap.size < x3.w.heap.size := x3.lt hA2
  have hB3 : w.heap.size + 1 < x3.w.heap.size := x3.lt hB2
  go_wp2_with fail
  refine (scut1_any (kDst l) 58 _ (g.up (by repeat (with_reducible first | exact Up.refl _ | refine Up.ext ?_ _ | refine Up.drew ?_ | refine Up.alloc ?_ _ | refine Up.setCell ?_ (by simp) _))) (by omega)).mono ?_
  rintro e w' ⟨rfl, x4, rfl⟩
  have hA4 : w.heap.size < x4.w.heap.size := x4.lt hA3
  have hB4 : w.heap.size + 1 < x4.w.heap.size := x4.lt hB3
  go_wp2_with fail
  refine (number8_any (cutC 32 l).1 _ (g.up (by repeat (with_reducible first | exact Up.refl _ | refine Up.ext ?_ _ | refine Up.drew ?_ | refine Up.alloc ?_ _ | refine Up.setCell ?_ (by simp) _))) (by omega)).mono ?_
  rintro e w' ⟨rfl, x5, rfl⟩
  have hA5 : w.heap.size < x5.w.heap.size := x5.lt hA4
  have hB5 : w.heap.size + 1 < x5.w.heap.size := x5.lt hB4
  go_wp2_with fail
  refine ((read_any (cutC 58 (kSrc l)).1 _ (g.up (by repeat (with_reducible first | exact Up.refl _ | refine Up.ext ?_ _ | refine Up.drew ?_ | refine Up.alloc ?_ _ | refine Up.setCell ?_ (by simp) _))) (by omega)).cast (readV_eq _)).mono ?_
  rintro e w' ⟨rfl, x6, rfl⟩
  have hA6 : w.heap.size < x6.w.heap.size := x6.lt (by rw [World.size_setCell]; exact hA5)
  have hB6 : w.heap.size + 1 < x6.w.heap.size := x6.lt (by rw [World.size_setCell]; exact hB5)
  go_wp2_with fail
  refine (number16_any (cutC 58 (kSrc l)).2.1 _ (g.up (by repeat (with_reducible first | exact Up.refl _ | refine Up.ext ?_ _ | refine Up.drew ?_ | refine Up.alloc ?_ _ | refine Up.setCell ?_ (by simp) _))) (by omega)).mono ?_
  rintro e w' ⟨rfl, x7, rfl⟩
  have hA7 : w.heap.size < x7.w.heap.size := x7.lt (by rw [World.size_setCell]; exact hA6)
  have hB7 : w.heap.size + 1 < x7.w.heap.size := x7.lt (by rw [World.size_setCell]; exact hB6)
  go_wp2_with fail
  refine ((read_any (cutC 58 (kDst l)).1 _ (g.up (by repeat (with_reducible first | exact Up.refl _ | refine Up.ext ?_ _ | refine Up.drew ?_ | refine Up.alloc ?_ _ | refine Up.setCell ?_ (by simp) _))) (by omega)).cast (readV_eq _)).mono ?_
  rintro e w' ⟨rfl, x8, rfl⟩
  have hA8 : w.heap.size < x8.w.heap.size := x8.lt (by rw [World.size_setCell]; exact hA7)
  have hB8 : w.heap.size + 1 < x8.w.heap.size := x8.lt (by rw [World.size_setCell]; exact hB7)
  go_wp2_with fail
  refine (number16_any (cutC 58 (kDst l)).2.1 _ (g.up (by repeat (with_reducible first | exact Up.refl _ | refine Up.ext ?_ _ | refine Up.drew ?_ | refine Up.alloc ?_ _ | refine Up.setCell ?_ (by simp) _))) (by omega)).mono ?_
  rintro e w' ⟨rfl, x9, rfl⟩
  have hA9 : w.heap.size < x9.w.heap.size := x9.lt (by rw [World.size_setCell]; exact hA8)
  have hB9 : w.heap.size + 1 < x9.w.heap.size := x9.lt (by rw [World.size_setCell]; exact hB8)
  go_wp2_with fail
  refine (keyText_any (kPr l) (kS l) (kD l) (kSp l) (kDp l) _ (g.up (by repeat (with_reducible first | exact Up.refl _ | refine Up.ext ?_ _ | refine Up.drew ?_ | refine Up.alloc ?_ _ | refine Up.setCell ?_ (by simp) _))) r0 r1 sp0 sp1 dp0 dp1).mono ?_
  rintro e w' ⟨rfl, x10, rfl⟩
  have hA10 : w.heap.size < x10.w.heap.size := x10.lt (by rw [World.size_setCell]; exact hA9)
  have hB10 : w.heap.size + 1 < x10.w.heap.size := x10.lt (by rw [World.size_setCell]; exact hB9)
  go_wp2_with fail
  refine bodyPost_ret (v := Value.tuple #[.agg #[.int .u8 0, .int .u32 0, .int .u32 0, .int .u16 0, .int .u16 0], .int .i64 30]) (by simp [results, Tryz.results47, go_sem, hA1, hA2, hA3, hA4, hA5, hA6, hA7, hA8, hA9]) rfl ⟨rfl, Up.mk (by repeat (with_reducible first | exact Up.refl _ | refine Up.ext ?_ _ | refine Up.drew ?_ | refine Up.alloc ?_ _ | refine Up.setCell ?_ (by simp) _))⟩

set_option maxHeartbeats 4000000 in
theorem readKey_yes (l : List UInt8) (w : World) (g : Good w) (hs : l.length < 4294967281) (heq : (keyTextL (kPr l) (kS l) (kD l) (kSp l) (kDp l) == l) = true) :
    Gives Tryz.prog 47 #[.string ⟨l.toArray⟩] w (Value.tuple #[.agg #[.int .u8 (kPr l), .int .u32 (kS l), .int .u32 (kD l), .int .u16 (kSp l), .int .u16 (kDp l)], .int .i64 0]) := by
  unfold Gives
  have b1 := cutC_len 32 l
  have b2 := kRest_len l
  have b3 := kSrc_len l
  have b4 := kDst_len l
  have b5 := cutC_len 58 (kSrc l)
  have b6 := cutC_len 58 (kDst l)
  obtain ⟨b10, b11⟩ := b1
  obtain ⟨b50, b51⟩ := b5
  obtain ⟨b60, b61⟩ := b6
  obtain ⟨r0, r1⟩ := numV_bd (cutC 32 l).1
  obtain ⟨sp0, sp1⟩ := numV16_bd (cutC 58 (kSrc l)).2.1
  obtain ⟨dp0, dp1⟩ := numV16_bd (cutC 58 (kDst l)).2.1
  go_enter Tryz.func47, Tryz.ntmps47
  go_wp2_with fail
  refine (scut1_any l 32 _ (g.up (by repeat (with_reducible first | exact Up.refl _ | refine Up.ext ?_ _ | refine Up.drew ?_ | refine Up.alloc ?_ _ | refine Up.setCell ?_ (by simp) _))) hs).mono ?_
  rintro e w' ⟨rfl, x1, rfl⟩
  have hA1 : w.heap.size < x1.w.heap.size := x1.lt (by simp [go_sem])
  have hB1 : w.heap.size + 1 < x1.w.heap.size := x1.lt (by simp)
  go_wp2_with fail
  refine (scut1_any (kRest l) 32 _ (g.up (by repeat (with_reducible first | exact Up.refl _ | refine Up.ext ?_ _ | refine Up.drew ?_ | refine Up.alloc ?_ _ | refine Up.setCell ?_ (by simp) _))) (by omega)).mono ?_
  rintro e w' ⟨rfl, x2, rfl⟩
  have hA2 : w.heap.size < x2.w.heap.size := x2.lt hA1
  have hB2 : w.heap.size + 1 < x2.w.heap.size := x2.lt hB1
  go_wp2_with fail
  refine (scut1_any (kSrc l) 58 _ (g.up (by repeat (with_reducible first | exact Up.refl _ | refine Up.ext ?_ _ | refine Up.drew ?_ | refine Up.alloc ?_ _ | refine Up.setCell ?_ (by simp) _))) (by omega)).mono ?_
  rintro e w' ⟨rfl, x3, rfl⟩
  have hA3 : w.heap.size < x3.w.heap.size := x3.lt hA2
  have hB3 : w.heap.size + 1 < x3.w.heap.size := x3.lt hB2
  go_wp2_with fail
  refine (scut1_any (kDst l) 58 _ (g.up (by repeat (with_reducible first | exact Up.refl _ | refine Up.ext ?_ _ | refine Up.drew ?_ | refine Up.alloc ?_ _ | refine Up.setCell ?_ (by simp) _))) (by omega)).mono ?_
  rintro e w' ⟨rfl, x4, rfl⟩
  have hA4 : w.heap.size < x4.w.heap.size := x4.lt hA3
  have hB4 : w.heap.size + 1 < x4.w.heap.size := x4.lt hB3
  go_wp2_with fail
  refine (number8_any (cutC 32 l).1 _ (g.up (by repeat (with_reducible first | exact Up.refl _ | refine Up.ext ?_ _ | refine Up.drew ?_ | refine Up.alloc ?_ _ | refine Up.setCell ?_ (by simp) _))) (by omega)).mono ?_
  rintro e w' ⟨rfl, x5, rfl⟩
  have hA5 : w.heap.size < x5.w.heap.size := x5.lt hA4
  have hB5 : w.heap.size + 1 < x5.w.heap.size := x5.lt hB4
  go_wp2_with fail
  refine ((read_any (cutC 58 (kSrc l)).1 _ (g.up (by repeat (with_reducible first | exact Up.refl _ | refine Up.ext ?_ _ | refine Up.drew ?_ | refine Up.alloc ?_ _ | refine Up.setCell ?_ (by simp) _))) (by omega)).cast (readV_eq _)).mono ?_
  rintro e w' ⟨rfl, x6, rfl⟩
  have hA6 : w.heap.size < x6.w.heap.size := x6.lt (by rw [World.size_setCell]; exact hA5)
  have hB6 : w.heap.size + 1 < x6.w.heap.size := x6.lt (by rw [World.size_setCell]; exact hB5)
  go_wp2_with fail
  refine (number16_any (cutC 58 (kSrc l)).2.1 _ (g.up (by repeat (with_reducible first | exact Up.refl _ | refine Up.ext ?_ _ | refine Up.drew ?_ | refine Up.alloc ?_ _ | refine Up.setCell ?_ (by simp) _))) (by omega)).mono ?_
  rintro e w' ⟨rfl, x7, rfl⟩
  have hA7 : w.heap.size < x7.w.heap.size := x7.lt (by rw [World.size_setCell]; exact hA6)
  have hB7 : w.heap.size + 1 < x7.w.heap.size := x7.lt (by rw [World.size_setCell]; exact hB6)
  go_wp2_with fail
  refine ((read_any (cutC 58 (kDst l)).1 _ (g.up (by repeat (with_reducible first | exact Up.refl _ | refine Up.ext ?_ _ | refine Up.drew ?_ | refine Up.alloc ?_ _ | refine Up.setCell ?_ (by simp) _))) (by omega)).cast (readV_eq _)).mono ?_
  rintro e w' ⟨rfl, x8, rfl⟩
  have hA8 : w.heap.size < x8.w.heap.size := x8.lt (by rw [World.size_setCell]; exact hA7)
  have hB8 : w.heap.size + 1 < x8.w.heap.size := x8.lt (by rw [World.size_setCell]; exact hB7)
  go_wp2_with fail
  refine (number16_any (cutC 58 (kDst l)).2.1 _ (g.up (by repeat (with_reducible first | exact Up.refl _ | refine Up.ext ?_ _ | refine Up.drew ?_ | refine Up.alloc ?_ _ | refine Up.setCell ?_ (by simp) _))) (by omega)).mono ?_
  rintro e w' ⟨rfl, x9, rfl⟩
  have hA9 : w.heap.size < x9.w.heap.size := x9.lt (by rw [World.size_setCell]; exact hA8)
  have hB9 : w.heap.size + 1 < x9.w.heap.size := x9.lt (by rw [World.size_setCell]; exact hB8)
  go_wp2_with fail
  refine (keyText_any (kPr l) (kS l) (kD l) (kSp l) (kDp l) _ (g.up (by repeat (with_reducible first | exact Up.refl _ | refine Up.ext ?_ _ | refine Up.drew ?_ | refine Up.alloc ?_ _ | refine Up.setCell ?_ (by simp) _))) r0 r1 sp0 sp1 dp0 dp1).mono ?_
  rintro e w' ⟨rfl, x10, rfl⟩
  have hA10 : w.heap.size < x10.w.heap.size := x10.lt (by rw [World.size_setCell]; exact hA9)
  have hB10 : w.heap.size + 1 < x10.w.heap.size := x10.lt (by rw [World.size_setCell]; exact hB9)
  go_wp2_with fail
  refine bodyPost_ret (v := Value.tuple #[.agg #[.int .u8 (kPr l), .int .u32 (kS l), .int .u32 (kD l), .int .u16 (kSp l), .int .u16 (kDp l)], .int .i64 0]) (by simp [results, Tryz.results47, go_sem, hA1, hA2, hA3, hA4, hA5, hA6, hA7, hA8, hA9, kPr, kS, kSp, kD, kDp]) rfl ⟨rfl, Up.mk (by repeat (with_reducible first | exact Up.refl _ | refine Up.ext ?_ _ | refine Up.drew ?_ | refine Up.alloc ?_ _ | refine Up.setCell ?_ (by simp) _))⟩
theorem readKey_any (l : List UInt8) (w : World) (g : Good w) (hs : l.length < 4294967281) : Gives Tryz.prog 47 #[.string ⟨l.toArray⟩] w (readKeyV l) := by
  by_cases h : kText l = l
  · exact (readKey_yes l w g hs (by unfold kText at h; simpa using h)).cast (by unfold readKeyV; rw [if_pos h])
  · exact (readKey_no l w g hs (by unfold kText at h; simpa using h)).cast (by unfold readKeyV; rw [if_neg h])
end Go.Proofs.YtlbbepgfjigjpaaGreatDoor
