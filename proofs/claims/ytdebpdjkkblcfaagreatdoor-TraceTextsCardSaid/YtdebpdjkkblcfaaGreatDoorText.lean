/- Texts of numbers and addresses: what decimal and Text of package addr return. -/
import Derived.Test.YtdebpdjkkblcfaaGreatDoorStr
import Derived.Test.YtdebpdjkkblcfaaGreatDoorAddrPlain
import Derived.Lib.ItoaLen
namespace Go.Ab
/-- The decimal digits of a number. -/
def dec (n : Int) : List UInt8 := Lib.itoa n
def octS (a s : Int) : Int := a / 2 ^ s.toNat % 256
def oct (a : Int) (k : Nat) : Int := octS a (24 - 8 * (k : Int))
/-- The text of an address. -/
def textL (a : Int) : List UInt8 := Lib.join [dec (oct a 0), dec (oct a 1), dec (oct a 2), dec (oct a 3)] [46]
def octs (a : Int) (k : Nat) : List Value := (List.range k).map fun j => Value.string ⟨(dec (oct a j)).toArray⟩
theorem octs_succ (a : Int) (k : Nat) : octs a (k + 1) = octs a k ++ [.string ⟨(dec (oct a k)).toArray⟩] := by simp [octs, List.range_succ]
theorem octS_bd (a s : Int) : 0 ≤ octS a s ∧ octS a s < 256 := by unfold octS; omega
theorem oct_bd (a : Int) (k : Nat) : 0 ≤ oct a k ∧ oct a k < 256 := octS_bd _ _
theorem str_app (x y : List UInt8) : (ByteArray.mk x.toArray ++ ByteArray.mk y.toArray) = ByteArray.mk (x ++ y).toArray := ByteArray.mk_append_mk x y
theorem dec_length (n : Int) (h0 : -9223372036854775808 ≤ n) (h1 : n ≤ 9223372036854775807) : (dec n).length ≤ 21 := Lib.itoa_length_le n h0 h1
theorem textL_length (a : Int) : (textL a).length ≤ 87 := by
  have e : ∀ j, (dec (oct a j)).length ≤ 21 := fun j => dec_length _ (by have := oct_bd a j; omega) (by have := oct_bd a j; omega)
  have e0 := e 0; have e1 := e 1; have e2 := e 2; have e3 := e 3
  unfold textL
  simp [Lib.join, List.intercalate]; omega
end Go.Ab
namespace Go.Proofs.YtdebpdjkkblcfaaGreatDoor
open Go.RowKit Go.Ab

set_option maxHeartbeats 400000 in
theorem decimal8_any (n : Int) (w : World) (g : Good w) (h0 : 0 ≤ n) (h1 : n < 256) : Gives Tryz.prog 61 #[.int .u8 n] w (.string ⟨(dec n).toArray⟩) := by
  unfold Gives
  go_enter Tryz.func61, Tryz.ntmps61
  go_wp2_with (go_at_call 32; refine (itoa_any n _ g (by omega) (by omega)).mono ?_; rintro e w' ⟨rfl, x, rfl⟩)
  go_ret
  exact ⟨rfl, x.up.mk⟩
set_option maxHeartbeats 400000 in
theorem decimal16_any (n : Int) (w : World) (g : Good w) (h0 : 0 ≤ n) (h1 : n < 65536) : Gives Tryz.prog 63 #[.int .u16 n] w (.string ⟨(dec n).toArray⟩) := by
  unfold Gives
  go_enter Tryz.func63, Tryz.ntmps63
  go_wp2_with (go_at_call 32; refine (itoa_any n _ g (by omega) (by omega)).mono ?_; rintro e w' ⟨rfl, x, rfl⟩)
  go_ret
  exact ⟨rfl, x.up.mk⟩

theorem infoStr : (Tryz.prog.info? 9).map (fun i => (i.zero, i.size, i.bytes)) = some (some (.string ⟨#[]⟩), 1, 16) := by kernel_rfl

set_option maxHeartbeats 400000 in
theorem text_any (a : Int) (w : World) (g : Good w) : Gives Tryz.prog 62 #[.int .u32 a] w (.string ⟨(textL a).toArray⟩) := by
  obtain ⟨i0, hi, hz0, hz1, hz2⟩ := info_parts infoStr
  have Hi := Lib.hid hi; have Hz0 := Lib.hid hz0; have Hz1 := Lib.hid hz1; have Hz2 := Lib.hid hz2
  clear hi hz0 hz1 hz2
  unfold Gives
  go_enter Tryz.func62, Tryz.ntmps62
  go_wp2
  go_loopw [3, 4] (fun l s wr => ∃ (k : Nat) (s' : Int), k ≤ 4 ∧ s = .int .i64 s' ∧ Hid (s' = 24 - 8 * (k : Int)) ∧ -8 ≤ s' ∧ s' ≤ 24 ∧ wr.ownsRow w.heap.size 9 1 l k (octs a k) ∧ Up w wr) (fun _ s _ => (8 + intOf s).toNat)
  case atStart => exact ⟨0, 24, by omega, rfl, rfl, by omega, by omega, World.ownsRow_nil _ _ _ _, Up.refl _⟩
  case round =>
    obtain ⟨k, s', hk, rfl, hs, hs0, hs1, hown, hup⟩ := hrel
    by_cases h4 : 0 ≤ s'
    · go_wp2_with (first
        | (go_at_call 61; refine (decimal8_any (octS a s') _ (g.up hup) (octS_bd a s').1 (octS_bd a s').2).mono ?_; rintro e w' ⟨rfl, x, rfl⟩)
        | (at_builtin; refine wpList_append_own _ rfl _ _ 39 rfl w.heap.size 9 i0 (.string ⟨#[]⟩) 1 16 Tryz.underlying39 Hi.out Hz0.out Hz1.out Hz2.out rfl (by decide) _ _ _ rfl ((owns_up hown x.up).alloc _) ⟨x.w.heap.size, 0, none⟩ 1 1 [.string ⟨(dec (octS a s')).toArray⟩] rfl rfl ?c1 ?c2 ?c3 ?c4 ?c5 ?_))
      case c1 => exact cell_one_new _ _ _
      case c2 => simp [Value.oneCell']
      case c3 => unfold maxLen; omega
      case c4 => omega
      case c5 => have := (((hup.ext x).alloc (Obj.cells #[.string ⟨(dec (octS a s')).toArray⟩] 9))).size; exact this
      intro v' w1 hown' hgrow _
      have hk4 : Hid (octs a (k + 1) = octs a k ++ [.string ⟨(dec (octS a s')).toArray⟩] ∧ k < 4) := ⟨by rw [octs_succ]; unfold oct; rw [← hs.out], by have := hs.out; omega⟩
      have hup' : Up w w1 := ((hup.ext x).alloc _).grown hgrow (owns_row hown)
      clear hown hgrow hup
      go_wp2_with fail
      go_roundw
      case rel => exact ⟨k + 1, s' - 8, by have := hk4.out.2; omega, rfl, by have := hs.out; unfold Hid; omega, by omega, by omega, by rw [hk4.out.1]; exact hown', hup'⟩
      case measure => simp [intOf]; omega
    · have hk4 : k = 4 := by have := hs.out; omega
      subst hk4
      have hlen : (Lib.join (([⟨(dec (oct a 0)).toArray⟩, ⟨(dec (oct a 1)).toArray⟩, ⟨(dec (oct a 2)).toArray⟩, ⟨(dec (oct a 3)).toArray⟩] : List ByteArray).map (·.data.toList)) (⟨#[46]⟩ : ByteArray).data.toList).length ≤ 140737488355328 := by
        have e : ∀ j, (dec (oct a j)).length ≤ 21 := fun j => dec_length _ (by have := oct_bd a j; omega) (by have := oct_bd a j; omega)
        have e0 := e 0; have e1 := e 1; have e2 := e 2; have e3 := e 3
        simp [Lib.join, List.intercalate]; omega
      have hj := join_own u3 4 w.heap.size [⟨(dec (oct a 0)).toArray⟩, ⟨(dec (oct a 1)).toArray⟩, ⟨(dec (oct a 2)).toArray⟩, ⟨(dec (oct a 3)).toArray⟩] ⟨#[46]⟩ wr hown (by omega) hlen
      have Hj := Lib.hid hj
      clear hj hown hlen
      go_wp2_with (go_at_call 40; refine Hj.out.mono ?_; rintro e w' ⟨rfl, x, rfl⟩)
      go_ret
      exact ⟨rfl, (hup.ext x).mk⟩
end Go.Proofs.YtdebpdjkkblcfaaGreatDoor
