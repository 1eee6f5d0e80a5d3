/- The package is awake: what the laws' own check of a few known answers says. -/
import Derived.Test.YtdiiicnjbgimmaaGreatDoorSame
import Derived.Test.YtdiiicnjbgimmaaGreatDoorCover
import Derived.Test.YtdiiicnjbgimmaaGreatDoorAddr7
namespace Go.Proofs.YtdiiicnjbgimmaaGreatDoor
open Go.RowKit Go.Ab
theorem cells8 {w : World} {base : Nat} {v : Value} {a0 n0 a1 n1 a2 n2 a3 n3 : Int} {n : Nat} (h : w.ownsRow base 25 2 v n (prefixCells [(a0, n0), (a1, n1), (a2, n2), (a3, n3)])) (hn : n = 4) :
    ∃ g cap, v = .slice (some ⟨g, 0, none⟩) 4 cap ∧ w.cell? ⟨g, 0, none⟩ = some (.int .u32 a0) ∧ w.cell? ⟨g, 1, none⟩ = some (.int .u8 n0) ∧ w.cell? ⟨g, 2, none⟩ = some (.int .u32 a1) ∧ w.cell? ⟨g, 3, none⟩ = some (.int .u8 n1) ∧
      w.cell? ⟨g, 4, none⟩ = some (.int .u32 a2) ∧ w.cell? ⟨g, 5, none⟩ = some (.int .u8 n2) ∧ w.cell? ⟨g, 6, none⟩ = some (.int .u32 a3) ∧ w.cell? ⟨g, 7, none⟩ = some (.int .u8 n3) := by
  subst hn
  obtain ⟨g, cap, rfl, _, _, _, hc⟩ := owns_cells h (by omega)
  exact ⟨g, cap, rfl, hc 0 _ rfl, hc 1 _ rfl, hc 2 _ rfl, hc 3 _ rfl, hc 4 _ rfl, hc 5 _ rfl, hc 6 _ rfl, hc 7 _ rfl⟩
theorem cells2 {w : World} {base : Nat} {v : Value} {a0 n0 : Int} {n : Nat} (h : w.ownsRow base 25 2 v n (prefixCells [(a0, n0)])) (hn : n = 1) :
    ∃ g cap, v = .slice (some ⟨g, 0, none⟩) 1 cap ∧ w.cell? ⟨g, 0, none⟩ = some (.int .u32 a0) ∧ w.cell? ⟨g, 1, none⟩ = some (.int .u8 n0) := by
  subst hn
  obtain ⟨g, cap, rfl, _, _, _, hc⟩ := owns_cells h (by omega)
  exact ⟨g, cap, rfl, hc 0 _ rfl, hc 1 _ rfl⟩
theorem cov_six (w : World) : Calls Tryz.prog 10 #[.int .u32 167772161, .int .u32 167772166] w fun e w' => ∃ g cap, e = .returned (.tuple #[.slice (some ⟨g, 0, none⟩) 4 cap, .int .i64 0]) ∧
      (w'.cell? ⟨g, 0, none⟩ = some (.int .u32 167772161) ∧ w'.cell? ⟨g, 1, none⟩ = some (.int .u8 32) ∧ w'.cell? ⟨g, 2, none⟩ = some (.int .u32 167772162) ∧ w'.cell? ⟨g, 3, none⟩ = some (.int .u8 31) ∧
      w'.cell? ⟨g, 4, none⟩ = some (.int .u32 167772164) ∧ w'.cell? ⟨g, 5, none⟩ = some (.int .u8 31) ∧ w'.cell? ⟨g, 6, none⟩ = some (.int .u32 167772166) ∧ w'.cell? ⟨g, 7, none⟩ = some (.int .u8 32)) ∧ ∃ x : Ext w, w' = x.w := by
  refine (cover_yes 167772161 167772166 w (by omega) (by omega) (by omega)).mono ?_
  rintro e w' ⟨v, rfl, hown, hx⟩
  rw [show coverL 167772161 167772166 = [(167772161, 32), (167772162, 31), (167772164, 31), (167772166, 32)] from by decide +kernel] at hown
  obtain ⟨g, cap, rfl, hc⟩ := cells8 hown rfl
  exact ⟨g, cap, rfl, hc, hx⟩
theorem cov_all (w : World) : Calls Tryz.prog 10 #[.int .u32 0, .int .u32 4294967295] w fun e w' => ∃ g cap, e = .returned (.tuple #[.slice (some ⟨g, 0, none⟩) 1 cap, .int .i64 0]) ∧
      (w'.cell? ⟨g, 0, none⟩ = some (.int .u32 0) ∧ w'.cell? ⟨g, 1, none⟩ = some (.int .u8 0)) ∧ ∃ x : Ext w, w' = x.w := by
  refine (cover_yes 0 4294967295 w (by omega) (by omega) (by omega)).mono ?_
  rintro e w' ⟨v, rfl, hown, hx⟩
  rw [show coverL 0 4294967295 = [(0, 0)] from by rw [coverL_step 0 4294967295 (by decide)]; decide +kernel] at hown
  obtain ⟨g, cap, rfl, hc⟩ := cells2 hown rfl
  exact ⟨g, cap, rfl, hc, hx⟩

set_option maxRecDepth 20000
theorem rd1 (w : World) (g : Good w) : Gives Tryz.prog 27 #[.string ⟨#[49, 48, 46, 48, 46, 48, 46, 49]⟩] w (.tuple #[.int .u32 167772161, .int .i64 0]) :=
  (read_any [49, 48, 46, 48, 46, 48, 46, 49] w g (by decide)).cast (by unfold readV; rw [show readL [49, 48, 46, 48, 46, 48, 46, 49] = some 167772161 from by decide +kernel])
theorem rb0 (w : World) (g : Good w) : Gives Tryz.prog 27 #[.string ⟨#[49, 48, 46, 48, 46, 48, 46, 48, 49]⟩] w (.tuple #[.int .u32 0, .int .i64 30]) :=
  (read_any [49, 48, 46, 48, 46, 48, 46, 48, 49] w g (by decide)).cast (by unfold readV; rw [show readL [49, 48, 46, 48, 46, 48, 46, 48, 49] = none from by decide +kernel])
theorem rp0 (w : World) (g : Good w) : Gives Tryz.prog 29 #[.string ⟨#[49, 48, 46, 48, 46, 48, 46, 48, 49]⟩] w (.tuple #[.agg #[.int .u32 0, .int .u8 0], .int .i64 30]) :=
  (readPrefix_any [49, 48, 46, 48, 46, 48, 46, 48, 49] w g (by decide)).cast (by unfold readPrefixV; rw [show readPrefixL [49, 48, 46, 48, 46, 48, 46, 48, 49] = none from by decide +kernel])
theorem rr0 (w : World) (g : Good w) : Gives Tryz.prog 31 #[.string ⟨#[49, 48, 46, 48, 46, 48, 46, 48, 49]⟩] w (.tuple #[.agg #[.int .u16 0, .int .u16 0], .int .i64 30]) :=
  (readRange_any [49, 48, 46, 48, 46, 48, 46, 48, 49] w g (by decide)).cast (by unfold readRangeV; rw [show readRangeL [49, 48, 46, 48, 46, 48, 46, 48, 49] = none from by decide +kernel])
theorem rb1 (w : World) (g : Good w) : Gives Tryz.prog 27 #[.string ⟨#[49, 48, 46, 48, 46, 48]⟩] w (.tuple #[.int .u32 0, .int .i64 30]) :=
  (read_any [49, 48, 46, 48, 46, 48] w g (by decide)).cast (by unfold readV; rw [show readL [49, 48, 46, 48, 46, 48] = none from by decide +kernel])
theorem rp1 (w : World) (g : Good w) : Gives Tryz.prog 29 #[.string ⟨#[49, 48, 46, 48, 46, 48]⟩] w (.tuple #[.agg #[.int .u32 0, .int .u8 0], .int .i64 30]) :=
  (readPrefix_any [49, 48, 46, 48, 46, 48] w g (by decide)).cast (by unfold readPrefixV; rw [show readPrefixL [49, 48, 46, 48, 46, 48] = none from by decide +kernel])
theorem rr1 (w : World) (g : Good w) : Gives Tryz.prog 31 #[.string ⟨#[49, 48, 46, 48, 46, 48]⟩] w (.tuple #[.agg #[.int .u16 0, .int .u16 0], .int .i64 30]) :=
  (readRange_any [49, 48, 46, 48, 46, 48] w g (by decide)).cast (by unfold readRangeV; rw [show readRangeL [49, 48, 46, 48, 46, 48] = none from by decide +kernel])
theorem rb2 (w : World) (g : Good w) : Gives Tryz.prog 27 #[.string ⟨#[49, 48, 46, 48, 46, 48, 46, 50, 53, 54]⟩] w (.tuple #[.int .u32 0, .int .i64 30]) :=
  (read_any [49, 48, 46, 48, 46, 48, 46, 50, 53, 54] w g (by decide)).cast (by unfold readV; rw [show readL [49, 48, 46, 48, 46, 48, 46, 50, 53, 54] = none from by decide +kernel])
theorem rp2 (w : World) (g : Good w) : Gives Tryz.prog 29 #[.string ⟨#[49, 48, 46, 48, 46, 48, 46, 50, 53, 54]⟩] w (.tuple #[.agg #[.int .u32 0, .int .u8 0], .int .i64 30]) :=
  (readPrefix_any [49, 48, 46, 48, 46, 48, 46, 50, 53, 54] w g (by decide)).cast (by unfold readPrefixV; rw [show readPrefixL [49, 48, 46, 48, 46, 48, 46, 50, 53, 54] = none from by decide +kernel])
theorem rr2 (w : World) (g : Good w) : Gives Tryz.prog 31 #[.string ⟨#[49, 48, 46, 48, 46, 48, 46, 50, 53, 54]⟩] w (.tuple #[.agg #[.int .u16 0, .int .u16 0], .int .i64 30]) :=
  (readRange_any [49, 48, 46, 48, 46, 48, 46, 50, 53, 54] w g (by decide)).cast (by unfold readRangeV; rw [show readRangeL [49, 48, 46, 48, 46, 48, 46, 50, 53, 54] = none from by decide +kernel])
theorem rb3 (w : World) (g : Good w) : Gives Tryz.prog 27 #[.string ⟨#[49, 48, 46, 48, 46, 48, 46, 49, 46]⟩] w (.tuple #[.int .u32 0, .int .i64 30]) :=
  (read_any [49, 48, 46, 48, 46, 48, 46, 49, 46] w g (by decide)).cast (by unfold readV; rw [show readL [49, 48, 46, 48, 46, 48, 46, 49, 46] = none from by decide +kernel])
theorem rp3 (w : World) (g : Good w) : Gives Tryz.prog 29 #[.string ⟨#[49, 48, 46, 48, 46, 48, 46, 49, 46]⟩] w (.tuple #[.agg #[.int .u32 0, .int .u8 0], .int .i64 30]) :=
  (readPrefix_any [49, 48, 46, 48, 46, 48, 46, 49, 46] w g (by decide)).cast (by unfold readPrefixV; rw [show readPrefixL [49, 48, 46, 48, 46, 48, 46, 49, 46] = none from by decide +kernel])
theorem rr3 (w : World) (g : Good w) : Gives Tryz.prog 31 #[.string ⟨#[49, 48, 46, 48, 46, 48, 46, 49, 46]⟩] w (.tuple #[.agg #[.int .u16 0, .int .u16 0], .int .i64 30]) :=
  (readRange_any [49, 48, 46, 48, 46, 48, 46, 49, 46] w g (by decide)).cast (by unfold readRangeV; rw [show readRangeL [49, 48, 46, 48, 46, 48, 46, 49, 46] = none from by decide +kernel])
theorem rb4 (w : World) (g : Good w) : Gives Tryz.prog 27 #[.string ⟨#[]⟩] w (.tuple #[.int .u32 0, .int .i64 30]) :=
  (read_any ([] : List UInt8) w g (by decide)).cast (by unfold readV; rw [show readL ([] : List UInt8) = none from by decide +kernel])
theorem rp4 (w : World) (g : Good w) : Gives Tryz.prog 29 #[.string ⟨#[]⟩] w (.tuple #[.agg #[.int .u32 0, .int .u8 0], .int .i64 30]) :=
  (readPrefix_any ([] : List UInt8) w g (by decide)).cast (by unfold readPrefixV; rw [show readPrefixL ([] : List UInt8) = none from by decide +kernel])
theorem rr4 (w : World) (g : Good w) : Gives Tryz.prog 31 #[.string ⟨#[]⟩] w (.tuple #[.agg #[.int .u16 0, .int .u16 0], .int .i64 30]) :=
  (readRange_any ([] : List UInt8) w g (by decide)).cast (by unfold readRangeV; rw [show readRangeL ([] : List UInt8) = none from by decide +kernel])
theorem rb5 (w : World) (g : Good w) : Gives Tryz.prog 27 #[.string ⟨#[49, 48, 46, 48, 46, 48, 46, 49, 47, 56]⟩] w (.tuple #[.int .u32 0, .int .i64 30]) :=
  (read_any [49, 48, 46, 48, 46, 48, 46, 49, 47, 56] w g (by decide)).cast (by unfold readV; rw [show readL [49, 48, 46, 48, 46, 48, 46, 49, 47, 56] = none from by decide +kernel])
theorem rp5 (w : World) (g : Good w) : Gives Tryz.prog 29 #[.string ⟨#[49, 48, 46, 48, 46, 48, 46, 49, 47, 56]⟩] w (.tuple #[.agg #[.int .u32 0, .int .u8 0], .int .i64 30]) :=
  (readPrefix_any [49, 48, 46, 48, 46, 48, 46, 49, 47, 56] w g (by decide)).cast (by unfold readPrefixV; rw [show readPrefixL [49, 48, 46, 48, 46, 48, 46, 49, 47, 56] = none from by decide +kernel])
theorem rr5 (w : World) (g : Good w) : Gives Tryz.prog 31 #[.string ⟨#[49, 48, 46, 48, 46, 48, 46, 49, 47, 56]⟩] w (.tuple #[.agg #[.int .u16 0, .int .u16 0], .int .i64 30]) :=
  (readRange_any [49, 48, 46, 48, 46, 48, 46, 49, 47, 56] w g (by decide)).cast (by unfold readRangeV; rw [show readRangeL [49, 48, 46, 48, 46, 48, 46, 49, 47, 56] = none from by decide +kernel])
theorem rb6 (w : World) (g : Good w) : Gives Tryz.prog 27 #[.string ⟨#[49, 48, 46, 48, 46, 48, 46, 48, 47, 51, 51]⟩] w (.tuple #[.int .u32 0, .int .i64 30]) :=
  (read_any [49, 48, 46, 48, 46, 48, 46, 48, 47, 51, 51] w g (by decide)).cast (by unfold readV; rw [show readL [49, 48, 46, 48, 46, 48, 46, 48, 47, 51, 51] = none from by decide +kernel])
theorem rp6 (w : World) (g : Good w) : Gives Tryz.prog 29 #[.string ⟨#[49, 48, 46, 48, 46, 48, 46, 48, 47, 51, 51]⟩] w (.tuple #[.agg #[.int .u32 0, .int .u8 0], .int .i64 30]) :=
  (readPrefix_any [49, 48, 46, 48, 46, 48, 46, 48, 47, 51, 51] w g (by decide)).cast (by unfold readPrefixV; rw [show readPrefixL [49, 48, 46, 48, 46, 48, 46, 48, 47, 51, 51] = none from by decide +kernel])
theorem rr6 (w : World) (g : Good w) : Gives Tryz.prog 31 #[.string ⟨#[49, 48, 46, 48, 46, 48, 46, 48, 47, 51, 51]⟩] w (.tuple #[.agg #[.int .u16 0, .int .u16 0], .int .i64 30]) :=
  (readRange_any [49, 48, 46, 48, 46, 48, 46, 48, 47, 51, 51] w g (by decide)).cast (by unfold readRangeV; rw [show readRangeL [49, 48, 46, 48, 46, 48, 46, 48, 47, 51, 51] = none from by decide +kernel])
theorem rb7 (w : World) (g : Good w) : Gives Tryz.prog 27 #[.string ⟨#[48, 45, 54, 53, 53, 51, 53]⟩] w (.tuple #[.int .u32 0, .int .i64 30]) :=
  (read_any [48, 45, 54, 53, 53, 51, 53] w g (by decide)).cast (by unfold readV; rw [show readL [48, 45, 54, 53, 53, 51, 53] = none from by decide +kernel])
theorem rp7 (w : World) (g : Good w) : Gives Tryz.prog 29 #[.string ⟨#[48, 45, 54, 53, 53, 51, 53]⟩] w (.tuple #[.agg #[.int .u32 0, .int .u8 0], .int .i64 30]) :=
  (readPrefix_any [48, 45, 54, 53, 53, 51, 53] w g (by decide)).cast (by unfold readPrefixV; rw [show readPrefixL [48, 45, 54, 53, 53, 51, 53] = none from by decide +kernel])
theorem rr7 (w : World) (g : Good w) : Gives Tryz.prog 31 #[.string ⟨#[48, 45, 54, 53, 53, 51, 53]⟩] w (.tuple #[.agg #[.int .u16 0, .int .u16 0], .int .i64 30]) :=
  (readRange_any [48, 45, 54, 53, 53, 51, 53] w g (by decide)).cast (by unfold readRangeV; rw [show readRangeL [48, 45, 54, 53, 53, 51, 53] = none from by decide +kernel])
theorem rb8 (w : World) (g : Good w) : Gives Tryz.prog 27 #[.string ⟨#[56, 48, 45, 56, 48]⟩] w (.tuple #[.int .u32 0, .int .i64 30]) :=
  (read_any [56, 48, 45, 56, 48] w g (by decide)).cast (by unfold readV; rw [show readL [56, 48, 45, 56, 48] = none from by decide +kernel])
theorem rp8 (w : World) (g : Good w) : Gives Tryz.prog 29 #[.string ⟨#[56, 48, 45, 56, 48]⟩] w (.tuple #[.agg #[.int .u32 0, .int .u8 0], .int .i64 30]) :=
  (readPrefix_any [56, 48, 45, 56, 48] w g (by decide)).cast (by unfold readPrefixV; rw [show readPrefixL [56, 48, 45, 56, 48] = none from by decide +kernel])
theorem rr8 (w : World) (g : Good w) : Gives Tryz.prog 31 #[.string ⟨#[56, 48, 45, 56, 48]⟩] w (.tuple #[.agg #[.int .u16 0, .int .u16 0], .int .i64 30]) :=
  (readRange_any [56, 48, 45, 56, 48] w g (by decide)).cast (by unfold readRangeV; rw [show readRangeL [56, 48, 45, 56, 48] = none from by decide +kernel])
theorem rb9 (w : World) (g : Good w) : Gives Tryz.prog 27 #[.string ⟨#[57, 45, 56]⟩] w (.tuple #[.int .u32 0, .int .i64 30]) :=
  (read_any [57, 45, 56] w g (by decide)).cast (by unfold readV; rw [show readL [57, 45, 56] = none from by decide +kernel])
theorem rp9 (w : World) (g : Good w) : Gives Tryz.prog 29 #[.string ⟨#[57, 45, 56]⟩] w (.tuple #[.agg #[.int .u32 0, .int .u8 0], .int .i64 30]) :=
  (readPrefix_any [57, 45, 56] w g (by decide)).cast (by unfold readPrefixV; rw [show readPrefixL [57, 45, 56] = none from by decide +kernel])
theorem rr9 (w : World) (g : Good w) : Gives Tryz.prog 31 #[.string ⟨#[57, 45, 56]⟩] w (.tuple #[.agg #[.int .u16 0, .int .u16 0], .int .i64 30]) :=
  (readRange_any [57, 45, 56] w g (by decide)).cast (by unfold readRangeV; rw [show readRangeL [57, 45, 56] = none from by decide +kernel])
theorem tx1 (w : World) (g : Good w) : Gives Tryz.prog 14 #[.int .u32 167772161] w (.string ⟨#[49, 48, 46, 48, 46, 48, 46, 49]⟩) :=
  (text_any 167772161 w g).cast (by rw [show textL 167772161 = [49, 48, 46, 48, 46, 48, 46, 49] from by decide +kernel])
theorem tx2 (w : World) (g : Good w) : Gives Tryz.prog 14 #[.int .u32 167838211] w (.string ⟨#[49, 48, 46, 49, 46, 50, 46, 51]⟩) :=
  (text_any 167838211 w g).cast (by rw [show textL 167838211 = [49, 48, 46, 49, 46, 50, 46, 51] from by decide +kernel])
theorem pt1 (w : World) (g : Good w) : Gives Tryz.prog 8 #[.agg #[.int .u32 167772160, .int .u8 8]] w (.tuple #[.string ⟨#[49, 48, 46, 48, 46, 48, 46, 48, 47, 56]⟩, .int .i64 0]) := by
  have h := prefixText_any 167772160 8 w g (by omega) (by omega) (by omega) (by omega)
  rw [show prefixTextL 167772160 8 = [49, 48, 46, 48, 46, 48, 46, 48, 47, 56] from by decide +kernel, show rightB 167772160 8 = true from by decide +kernel] at h
  exact h
theorem bd1 (w : World) : Gives Tryz.prog 9 #[.agg #[.int .u32 167772160, .int .u8 8]] w (.tuple #[.int .u32 167772160, .int .u32 184549375, .int .i64 0]) :=
  (bounds_any 167772160 8 w (by omega) (by omega) (by omega)).cast (by rw [show rightB 167772160 8 = true from by decide +kernel]; rfl)
theorem ct1 (w : World) : Gives Tryz.prog 7 #[.int .u32 167838211, .int .u8 8] w (.tuple #[.agg #[.int .u32 167772160, .int .u8 8], .int .i64 0]) :=
  (cut_any 167838211 8 w (by omega) (by omega) (by omega) (by omega)).cast (by rw [show (167838211 : Int) - 167838211 % sz 8 = 167772160 from by decide +kernel])
theorem hs1 (w : World) : Gives Tryz.prog 19 #[.agg #[.int .u32 167772160, .int .u8 8], .int .u32 184549375] w (.bool true) :=
  (has_any 167772160 8 184549375 w (by omega) (by omega) (by omega) (by omega) (by omega)).cast (by rw [show hasB 167772160 8 184549375 = true from by decide +kernel])
theorem in1 (w : World) : Gives Tryz.prog 21 #[.agg #[.int .u32 167772160, .int .u8 8], .agg #[.int .u32 0, .int .u8 0]] w (.bool true) :=
  (inside_any 167772160 8 0 0 w (by omega) (by omega) (by omega) (by omega) (by omega) (by omega)).cast (by rw [show insideB 167772160 8 0 0 = true from by decide +kernel])
theorem kt1 (w : World) (g : Good w) : Gives Tryz.prog 43 #[.agg #[.int .u8 6, .int .u32 167772161, .int .u32 167772162, .int .u16 80, .int .u16 90]] w (.string ⟨#[54, 32, 49, 48, 46, 48, 46, 48, 46, 49, 58, 56, 48, 32, 49, 48, 46, 48, 46, 48, 46, 50, 58, 57, 48]⟩) :=
  (keyText_any 6 167772161 167772162 80 90 w g (by omega) (by omega) (by omega) (by omega) (by omega) (by omega)).cast (by rw [show keyTextL 6 167772161 167772162 80 90 = [54, 32, 49, 48, 46, 48, 46, 48, 46, 49, 58, 56, 48, 32, 49, 48, 46, 48, 46, 48, 46, 50, 58, 57, 48] from by decide +kernel])
theorem kt2 (w : World) (g : Good w) : Gives Tryz.prog 43 #[.agg #[.int .u8 6, .int .u32 167772162, .int .u32 167772161, .int .u16 90, .int .u16 80]] w (.string ⟨#[54, 32, 49, 48, 46, 48, 46, 48, 46, 50, 58, 57, 48, 32, 49, 48, 46, 48, 46, 48, 46, 49, 58, 56, 48]⟩) :=
  (keyText_any 6 167772162 167772161 90 80 w g (by omega) (by omega) (by omega) (by omega) (by omega) (by omega)).cast (by rw [show keyTextL 6 167772162 167772161 90 80 = [54, 32, 49, 48, 46, 48, 46, 48, 46, 50, 58, 57, 48, 32, 49, 48, 46, 48, 46, 48, 46, 49, 58, 56, 48] from by decide +kernel])

end Go.Proofs.YtdiiicnjbgimmaaGreatDoor
