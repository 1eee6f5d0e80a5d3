/- The package's own check of a few known answers. -/
import Derived.Test.YtdebpdjkkblcfaaGreatDoorEqual
import Derived.Test.YtdebpdjkkblcfaaGreatDoorTr3
namespace Go.Ab
def evA : Ev := ⟨12, 1, 22, 6, 167772161, 167772162, 1025, 80⟩
def evBb : Ev := ⟨13, 0, 3, 0, 0, 0, 0, 0⟩
end Go.Ab
namespace Go.Proofs.YtdebpdjkkblcfaaGreatDoor
open Go.RowKit Go.Ab
set_option maxHeartbeats 4000000 in
set_option maxRecDepth 100000 in
theorem example_any (w : World) : Gives Tryz.prog 9 #[] w (.tuple #[.agg #[.int .i64 12, .int .u8 1, .int .u8 22, .int .u8 6, .int .u32 167772161, .int .u32 167772162, .int .u16 1025, .int .u16 80], .agg #[.int .i64 13, .int .u8 0, .int .u8 3, .int .u8 0, .int .u32 0, .int .u32 0, .int .u16 0, .int .u16 0]]) := by
  unfold Gives
  go_enter Tryz.func9, Tryz.ntmps9
  go_wp2_with fail
  refine bodyPost_ret (v := Value.tuple #[.agg #[.int .i64 12, .int .u8 1, .int .u8 22, .int .u8 6, .int .u32 167772161, .int .u32 167772162, .int .u16 1025, .int .u16 80], .agg #[.int .i64 13, .int .u8 0, .int .u8 3, .int .u8 0, .int .u32 0, .int .u32 0, .int .u16 0, .int .u16 0]]) (by simp [results, Tryz.results9, go_sem]) rfl ⟨rfl, mkI⟩
end Go.Proofs.YtdebpdjkkblcfaaGreatDoor
namespace Go.Proofs.YtdebpdjkkblcfaaGreatDoor
open Go.RowKit Go.Ab
set_option maxRecDepth 100000
theorem evA_b : EvB evA := ⟨by decide, by decide, by decide, by decide, by decide, by decide, ⟨by decide, by decide, by decide, by decide, by decide, by decide, by decide, by decide, by decide, by decide⟩⟩
theorem evB_b : EvB evBb := ⟨by decide, by decide, by decide, by decide, by decide, by decide, ⟨by decide, by decide, by decide, by decide, by decide, by decide, by decide, by decide, by decide, by decide⟩⟩
theorem evA_r : evA.right = true := by decide
theorem evB_r : evBb.right = true := by decide
theorem tx_a (w : World) (g : GoodT w) : Gives Tryz.prog 20 #[.agg #[.int .i64 12, .int .u8 1, .int .u8 22, .int .u8 6, .int .u32 167772161, .int .u32 167772162, .int .u16 1025, .int .u16 80]] w (.tuple #[.string ⟨#[49, 50, 32, 111, 117, 116, 32, 112, 97, 115, 115, 32, 110, 101, 119, 32, 54, 32, 49, 48, 46, 48, 46, 48, 46, 49, 58, 49, 48, 50, 53, 32, 49, 48, 46, 48, 46, 48, 46, 50, 58, 56, 48]⟩, .int .i64 0]) :=
  (tr_text 12 1 22 6 167772161 167772162 1025 80 w g (by decide) (by decide) (by decide) (by decide) evA_b.key).cast (by rw [show evTextS 12 1 22 6 167772161 167772162 1025 80 = [49, 50, 32, 111, 117, 116, 32, 112, 97, 115, 115, 32, 110, 101, 119, 32, 54, 32, 49, 48, 46, 48, 46, 48, 46, 49, 58, 49, 48, 50, 53, 32, 49, 48, 46, 48, 46, 48, 46, 50, 58, 56, 48] from by decide +kernel, show evTextE 12 1 22 6 167772161 167772162 1025 80 = 0 from by decide +kernel])
theorem tx_b (w : World) (g : GoodT w) : Gives Tryz.prog 20 #[.agg #[.int .i64 13, .int .u8 0, .int .u8 3, .int .u8 0, .int .u32 0, .int .u32 0, .int .u16 0, .int .u16 0]] w (.tuple #[.string ⟨#[49, 51, 32, 105, 110, 32, 100, 114, 111, 112, 32, 104, 101, 97, 100, 101, 114, 32, 45]⟩, .int .i64 0]) :=
  (tr_text 13 0 3 0 0 0 0 0 w g (by decide) (by decide) (by decide) (by decide) evB_b.key).cast (by rw [show evTextS 13 0 3 0 0 0 0 0 = [49, 51, 32, 105, 110, 32, 100, 114, 111, 112, 32, 104, 101, 97, 100, 101, 114, 32, 45] from by decide +kernel, show evTextE 13 0 3 0 0 0 0 0 = 0 from by decide +kernel])
theorem rd_a (w : World) (g : GoodT w) : Gives Tryz.prog 21 #[.string ⟨#[49, 50, 32, 111, 117, 116, 32, 112, 97, 115, 115, 32, 110, 101, 119, 32, 54, 32, 49, 48, 46, 48, 46, 48, 46, 49, 58, 49, 48, 50, 53, 32, 49, 48, 46, 48, 46, 48, 46, 50, 58, 56, 48]⟩] w (.tuple #[.agg #[.int .i64 12, .int .u8 1, .int .u8 22, .int .u8 6, .int .u32 167772161, .int .u32 167772162, .int .u16 1025, .int .u16 80], .int .i64 0]) :=
  (tr_read [49, 50, 32, 111, 117, 116, 32, 112, 97, 115, 115, 32, 110, 101, 119, 32, 54, 32, 49, 48, 46, 48, 46, 48, 46, 49, 58, 49, 48, 50, 53, 32, 49, 48, 46, 48, 46, 48, 46, 50, 58, 56, 48] w g (by decide)).cast (by kernel_rfl)
theorem rd_z0 (w : World) (g : GoodT w) : Gives Tryz.prog 21 #[.string ⟨#[49, 51, 32, 105, 110, 32, 112, 97, 115, 115, 32, 104, 101, 97, 100, 101, 114, 32, 45]⟩] w (.tuple #[.agg #[.int .i64 0, .int .u8 0, .int .u8 0, .int .u8 0, .int .u32 0, .int .u32 0, .int .u16 0, .int .u16 0], .int .i64 410]) :=
  (tr_read [49, 51, 32, 105, 110, 32, 112, 97, 115, 115, 32, 104, 101, 97, 100, 101, 114, 32, 45] w g (by decide)).cast (by kernel_rfl)
theorem rd_z1 (w : World) (g : GoodT w) : Gives Tryz.prog 21 #[.string ⟨#[48, 49, 51, 32, 105, 110, 32, 100, 114, 111, 112, 32, 104, 101, 97, 100, 101, 114, 32, 45]⟩] w (.tuple #[.agg #[.int .i64 0, .int .u8 0, .int .u8 0, .int .u8 0, .int .u32 0, .int .u32 0, .int .u16 0, .int .u16 0], .int .i64 410]) :=
  (tr_read [48, 49, 51, 32, 105, 110, 32, 100, 114, 111, 112, 32, 104, 101, 97, 100, 101, 114, 32, 45] w g (by decide)).cast (by kernel_rfl)
theorem rd_z2 (w : World) (g : GoodT w) : Gives Tryz.prog 21 #[.string ⟨#[49, 51, 32, 105, 110, 32, 100, 114, 111, 112, 32, 102, 108, 111, 119, 32, 45]⟩] w (.tuple #[.agg #[.int .i64 0, .int .u8 0, .int .u8 0, .int .u8 0, .int .u32 0, .int .u32 0, .int .u16 0, .int .u16 0], .int .i64 410]) :=
  (tr_read [49, 51, 32, 105, 110, 32, 100, 114, 111, 112, 32, 102, 108, 111, 119, 32, 45] w g (by decide)).cast (by kernel_rfl)
end Go.Proofs.YtdebpdjkkblcfaaGreatDoor
