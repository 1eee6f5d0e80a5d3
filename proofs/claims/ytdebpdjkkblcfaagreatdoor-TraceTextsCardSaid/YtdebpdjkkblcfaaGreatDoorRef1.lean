/- The reference's numerals and texts. -/
import Derived.Test.YtdebpdjkkblcfaaGreatDoorAddr2
import Derived.Test.YtdebpdjkkblcfaaGreatDoorInst
import Derived.Deep.RegionHeld3
import Derived.WalkSpells
import Derived.Laws.BytesString
import Derived.Laws.IdiomStrings
namespace Go.Proofs.YtdebpdjkkblcfaaGreatDoor
open Go.RowKit Go.Ab

theorem run_byte_cell (w : World) (b : Nat) (c : Int) (hc : w.cell? ⟨b, 0, none⟩ = some (.int .u8 c)) : (convert 103 9 (.slice (some ⟨b, 0, none⟩) 1 1)).run Tryz.prog w = .ok (.string ⟨#[UInt8.ofNat c.toNat]⟩) w := by
  rw [run_convert_bytes_string _ _ _ _ _ _ _ Tryz.underlying103 Tryz.underlying5 Tryz.underlying9]
  have hl := run_loadCells_list (P := Tryz.prog) w ⟨b, 0, none⟩ ([c].map (Value.int .u8)) (fun j v hj => by
    have hj' : j < 1 := by have := (List.getElem?_eq_some_iff.1 hj).1; simpa using this
    obtain rfl : j = 0 := by omega
    simp at hj
    rw [← hj]; simp [Addr.add, hc])
  exact run_bytesToString _ _ 1 1 [c] hl
theorem run_byte_string (w : World) (n : Nat) (c : Int) [h : SizeIs w n] : (convert 103 9 (.slice (some ⟨n, 0, none⟩) 1 1)).run Tryz.prog (w.alloc (.cells #[.int .u8 c] 5)) = .ok (.string ⟨#[UInt8.ofNat c.toNat]⟩) (w.alloc (.cells #[.int .u8 c] 5)) :=
  run_byte_cell _ n c (alloc_at_cellI w n 0 _ _)
theorem run_byte_ext (w : World) (n : Nat) (c : Int) [h : SizeIs w n] (x : Ext (w.alloc (.cells #[.int .u8 c] 5))) : (convert 103 9 (.slice (some ⟨n, 0, none⟩) 1 1)).run Tryz.prog x.w = .ok (.string ⟨#[UInt8.ofNat c.toNat]⟩) x.w :=
  run_byte_cell _ n c ((x.cellI n 0).trans (alloc_at_cellI w n 0 _ _))
theorem run_byte_extd (w : World) (n : Nat) (c : Int) [h : SizeIs w n] (x : Ext (w.alloc (.cells #[.int .u8 c] 5)).drew) : (convert 103 9 (.slice (some ⟨n, 0, none⟩) 1 1)).run Tryz.prog x.w = .ok (.string ⟨#[UInt8.ofNat c.toNat]⟩) x.w :=
  run_byte_cell _ n c ((x.cellI n 0).trans (alloc_at_cellI w n 0 _ _))
theorem run_byte_drew (w : World) (n : Nat) (c : Int) [h : SizeIs w n] : (convert 103 9 (.slice (some ⟨n, 0, none⟩) 1 1)).run Tryz.prog (w.alloc (.cells #[.int .u8 c] 5)).drew = .ok (.string ⟨#[UInt8.ofNat c.toNat]⟩) (w.alloc (.cells #[.int .u8 c] 5)).drew :=
  run_byte_cell _ n c (alloc_at_cellI w n 0 _ _)
attribute [local go_sem] run_byte_drew run_byte_string run_byte_ext run_byte_extd
theorem dec_small (n : Int) (h0 : 0 ≤ n) (h1 : n < 10) : dec n = [UInt8.ofNat (48 + n).toNat] := by
  obtain ⟨u, rfl⟩ := Int.eq_ofNat_of_zero_le h0
  unfold dec
  rw [Lib.itoa_nonneg, Lib.decDigits_one (by omega)]
  congr 2
theorem dec_snoc (n : Int) (h1 : 10 ≤ n) : dec n = dec (n / 10) ++ [UInt8.ofNat (48 + n % 10).toNat] := by
  obtain ⟨u, rfl⟩ := Int.eq_ofNat_of_zero_le (show 0 ≤ n by omega)
  unfold dec
  rw [Lib.itoa_nonneg, show ((u : Int) / 10) = ((u / 10 : Nat) : Int) by omega, Lib.itoa_nonneg, Lib.decDigits, dif_neg (by omega)]
  congr 3

set_option maxHeartbeats 4000000 in
set_option maxRecDepth 100000 in
theorem refDecimal_small (n : Int) (w : World) (h0 : 0 ≤ n) (h1 : n < 10) : Gives Tryz.prog 58 #[.int .i64 n] w (.string ⟨(dec n).toArray⟩) := by
  rw [dec_small n h0 h1]
  unfold Gives
  go_enter Tryz.func58, Tryz.ntmps58
  go_wp2
  go_ret
  exact ⟨rfl, mkI⟩
set_option maxHeartbeats 4000000 in
set_option maxRecDepth 100000 in
theorem refDecimal_upto (m : Nat) : ∀ (n : Int) (w : World), n.toNat ≤ m → 0 ≤ n → n < 9223372036854775807 → Gives Tryz.prog 58 #[.int .i64 n] w (.string ⟨(dec n).toArray⟩) := by
  induction m with
  | zero => intro n w hm h0 h1; exact refDecimal_small n w h0 (by omega)
  | succ m ih =>
    intro n w hm h0 h1
    by_cases hs : n < 10
    · exact refDecimal_small n w h0 hs
    · have e1 : IntKind.i64.wrap (n.tdiv 10) = n / 10 := by rw [Int.tdiv_eq_ediv_of_nonneg h0]; exact IntWalk.i64_in _ (by omega)
      have e2 : n.tmod 10 = n % 10 := Int.tmod_eq_emod_of_nonneg h0
      have e3 : IntKind.i64.wrap (48 + n % 10) = 48 + n % 10 := IntWalk.i64_in _ (by omega)
      have e4 : IntKind.u8.wrap (48 + n % 10) = 48 + n % 10 := by rw [IntKind.wrap_u8]; omega
      have ihq : ∀ w, Gives Tryz.prog 58 #[.int .i64 (n / 10)] w (.string ⟨(dec (n / 10)).toArray⟩) := fun w => ih _ _ (by omega) (by omega) (by omega)
      have l2 := dec_length (n / 10) (by omega) (by omega)
      rw [dec_snoc n (by omega)]
      clear ih hm h1
      unfold Gives
      go_enter Tryz.func58, Tryz.ntmps58
      go_wp2_with fail
      go_region_with (go_at_call 58; refine (ihq _).mono ?_; rintro e w' ⟨rfl, x, rfl⟩)
      all_goals (go_wp2_with fail; go_ret; exact ⟨rfl, mkI⟩)
theorem refDecimal_any (n : Int) (w : World) (h0 : 0 ≤ n) (h1 : n < 9223372036854775807) : Gives Tryz.prog 58 #[.int .i64 n] w (.string ⟨(dec n).toArray⟩) :=
  refDecimal_upto n.toNat n w (Nat.le_refl _) h0 h1
end Go.Proofs.YtdebpdjkkblcfaaGreatDoor
