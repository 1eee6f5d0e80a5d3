/- The walk of TraceBack. -/
import Derived.Test.YtdebpdjkkblcfaaDoorTrPlain
import Derived.Test.YtdebpdjkkblcfaaDoorMade
import Derived.Test.YtdebpdjkkblcfaaDoorAwk3
import Derived.Test.YtdebpdjkkblcfaaDoorEvAt
import Derived.Deep.DeepCutAuto
namespace Go.Proofs.YtdebpdjkkblcfaaDoor
open Go.RowKit Go.Ab
attribute [local go_sem high] eq_event
set_option maxHeartbeats 32000000 in
set_option synthInstance.maxHeartbeats 2000000 in
set_option synthInstance.maxSize 100000 in
set_option maxRecDepth 100000 in
theorem tback_any (now : Int) (x y : Sm) (l : List UInt8) (w : World) (g : GoodT w) (hx : SmB x) (hy : SmB y) (hs : l.length < 4294967281) :
    Gives Tryd.prog 3 #[.int .i64 now, .agg #[.int .u8 x.a, .int .u8 x.sd, .int .u8 x.r, .int .u8 x.p, .int .u32 x.s, .int .u32 x.d, .int .u16 x.sp, .int .u16 x.dp], .agg #[.int .u8 y.a, .int .u8 y.sd, .int .u8 y.r, .int .u8 y.p, .int .u32 y.s, .int .u32 y.d, .int .u16 y.sp, .int .u16 y.dp], .string ⟨l.toArray⟩] w (.bool true) := by
  have hmd := fun w => modulo_any now 1099511627773 w (by omega) (by omega)
  have hN0 : 0 ≤ now % 1099511627773 := by omega
  have hN1 : now % 1099511627773 ≤ 1099511627772 := by omega
  generalize now % 1099511627773 = N at *
  have hmx := fun w => made_any N x w hx (by omega) (by omega)
  have hmy := fun w => made_any N y w hy (by omega) (by omega)
  have ax := madeE_b N x hx (by omega) (by omega)
  have ay := madeE_b N y hy (by omega) (by omega)
  have rx := madeE_r N x (by omega) (by omega)
  have ry := madeE_r N y (by omega) (by omega)
  generalize madeE N x = A at *
  generalize madeE N y = B at *
  obtain ⟨xa, xsd, xr, xp, xs, xd, xsp, xdp⟩ := x
  obtain ⟨ya, ysd, yr, yp, ys, yd, ysp, ydp⟩ := y
  simp only at hmx hmy ⊢
  clear hx hy
  have hrA : ∀ w, GoodT w → Gives Tryd.prog 13 #[.string ⟨A.text.toArray⟩] w (.tuple #[A.val, .int .i64 0]) := fun w g => (tr_read A.text w g (by have := text_len A ax rx; omega)).cast (read_ev A ax rx)
  have hri : ∀ w, Gives Tryd.prog 14 #[.agg #[.int .i64 A.n, .int .u8 A.sd, .int .u8 A.r, .int .u8 A.pr, .int .u32 A.s, .int .u32 A.d, .int .u16 A.sp, .int .u16 A.dp]] w (.bool true) := fun w => (tright_any A.n A.sd A.r A.pr A.s A.d A.sp A.dp w ax.sd0 ax.sd1 ax.r0 ax.r1).cast (by rw [show rightEv A.n A.sd A.r A.pr A.s A.d A.sp A.dp = true from rx])
  have htA : ∀ w, GoodT w → Gives Tryd.prog 12 #[.agg #[.int .i64 A.n, .int .u8 A.sd, .int .u8 A.r, .int .u8 A.pr, .int .u32 A.s, .int .u32 A.d, .int .u16 A.sp, .int .u16 A.dp]] w (.tuple #[.string ⟨A.text.toArray⟩, .int .i64 0]) := fun w g => (tr_text A.n A.sd A.r A.pr A.s A.d A.sp A.dp w g ax.sd0 ax.sd1 ax.r0 ax.r1 ax.key).cast (by unfold evTextS evTextE; rw [if_pos (show rightEv A.n A.sd A.r A.pr A.s A.d A.sp A.dp = true from rx), if_pos (show rightEv A.n A.sd A.r A.pr A.s A.d A.sp A.dp = true from rx)]; rfl)
  have htB : ∀ w, GoodT w → Gives Tryd.prog 12 #[.agg #[.int .i64 B.n, .int .u8 B.sd, .int .u8 B.r, .int .u8 B.pr, .int .u32 B.s, .int .u32 B.d, .int .u16 B.sp, .int .u16 B.dp]] w (.tuple #[.string ⟨B.text.toArray⟩, .int .i64 0]) := fun w g => (tr_text B.n B.sd B.r B.pr B.s B.d B.sp B.dp w g ay.sd0 ay.sd1 ay.r0 ay.r1 ay.key).cast (by unfold evTextS evTextE; rw [if_pos (show rightEv B.n B.sd B.r B.pr B.s B.d B.sp B.dp = true from ry), if_pos (show rightEv B.n B.sd B.r B.pr B.s B.d B.sp B.dp = true from ry)]; rfl)
  unfold Ev.val at hmx hmy hrA
  unfold Gives
  go_enter Tryd.func3, Tryd.ntmps3
  go_upto_region 4 with (first
    | (go_at_call 9; refine (awake_any _ (g.up upI)).mono ?_; rintro e w' ⟨rfl, z, rfl⟩)
    | (go_at_call 10; refine (hmd _).mono ?_; rintro e w' ⟨rfl, z, rfl⟩))
  go_cut [9, 10] (fun v9 v10 wx => ∃ p q, v9 = .pointer (some ⟨p, 0, none⟩) ∧ v10 = .pointer (some ⟨q, 0, none⟩) ∧ UpI w wx ∧ EvAt wx p A ∧ EvAt wx q B)
  case first =>
    go_region_held3 (fun w' => UpI w w' ∧ (w'.cell? ⟨w.heap.size, 0, none⟩ = some (.int .u8 xa) ∧ w'.cell? ⟨w.heap.size, 1, none⟩ = some (.int .u8 xsd) ∧ w'.cell? ⟨w.heap.size, 2, none⟩ = some (.int .u8 xr) ∧ w'.cell? ⟨w.heap.size, 3, none⟩ = some (.int .u8 xp) ∧ w'.cell? ⟨w.heap.size, 4, none⟩ = some (.int .u32 xs) ∧ w'.cell? ⟨w.heap.size, 5, none⟩ = some (.int .u32 xd) ∧ w'.cell? ⟨w.heap.size, 6, none⟩ = some (.int .u16 xsp) ∧ w'.cell? ⟨w.heap.size, 7, none⟩ = some (.int .u16 xdp)) ∧
        (w'.cell? ⟨w.heap.size + 1, 0, none⟩ = some (.int .u8 ya) ∧ w'.cell? ⟨w.heap.size + 1, 1, none⟩ = some (.int .u8 ysd) ∧ w'.cell? ⟨w.heap.size + 1, 2, none⟩ = some (.int .u8 yr) ∧ w'.cell? ⟨w.heap.size + 1, 3, none⟩ = some (.int .u8 yp) ∧ w'.cell? ⟨w.heap.size + 1, 4, none⟩ = some (.int .u32 ys) ∧ w'.cell? ⟨w.heap.size + 1, 5, none⟩ = some (.int .u32 yd) ∧ w'.cell? ⟨w.heap.size + 1, 6, none⟩ = some (.int .u16 ysp) ∧ w'.cell? ⟨w.heap.size + 1, 7, none⟩ = some (.int .u16 ydp)))
      (exact ⟨inferInstance, ⟨by simp [go_sem], by simp [go_sem], by simp [go_sem], by simp [go_sem], by simp [go_sem], by simp [go_sem], by simp [go_sem], by simp [go_sem]⟩, ⟨by simp [go_sem], by simp [go_sem], by simp [go_sem], by simp [go_sem], by simp [go_sem], by simp [go_sem], by simp [go_sem], by simp [go_sem]⟩⟩)
      (first
        | (go_at_call 11; (with_reducible refine (hmx _).mono ?_); rintro e w' ⟨rfl, z, rfl⟩)
        | (go_at_call 11; (with_reducible refine (hmy _).mono ?_); rintro e w' ⟨rfl, z, rfl⟩))
    all_goals (go_wp2_with fail; go_meet; exact ⟨_, _, rfl, rfl, inferInstance, ⟨by simp [go_sem], by simp [go_sem], by simp [go_sem], by simp [go_sem], by simp [go_sem], by simp [go_sem], by simp [go_sem], by simp [go_sem]⟩, ⟨by simp [go_sem], by simp [go_sem], by simp [go_sem], by simp [go_sem], by simp [go_sem], by simp [go_sem], by simp [go_sem], by simp [go_sem]⟩⟩)
  case rest =>
    obtain ⟨p, q, rfl, rfl, hu, eA, eB⟩ := hcut
    haveI := eA.lt
    haveI := eB.lt
    obtain ⟨a0, a1, a2, a3, a4, a5, a6, a7⟩ := eA
    obtain ⟨b0, b1, b2, b3, b4, b5, b6, b7⟩ := eB
    have gx := g.up hu.up
    have hAA : evB A.n A.sd A.r A.pr A.s A.d A.sp A.dp A.n A.sd A.r A.pr A.s A.d A.sp A.dp = true := by rw [evB_eq]; simp
    have hZ : evB 0 0 0 0 0 0 0 0 0 0 0 0 0 0 0 0 = true := by decide
    obtain ⟨c, hc1, hc2⟩ : ∃ c, evB A.n A.sd A.r A.pr A.s A.d A.sp A.dp B.n B.sd B.r B.pr B.s B.d B.sp B.dp = c ∧ (A.text == B.text) = c := by
      refine ⟨_, rfl, ?_⟩
      rw [evB_eq, Bool.eq_iff_iff]
      simpa using text_eq A B ax ay rx ry
    clear g hmx hmy hmd
    go_wp2_with (first
      | (go_at_call 12; (with_reducible refine (htA _ (gx.up upI)).mono ?_); rintro e w' ⟨rfl, z, rfl⟩)
      | (go_at_call 12; (with_reducible refine (htB _ (gx.up upI)).mono ?_); rintro e w' ⟨rfl, z, rfl⟩)
      | (go_at_call 13; (with_reducible refine (hrA _ (gx.up upI)).mono ?_); rintro e w' ⟨rfl, z, rfl⟩)
      | (go_at_call 14; (with_reducible refine (hri _).mono ?_); rintro e w' ⟨rfl, z, rfl⟩))
    clear hrA hri a0 a1 a2 a3 a4 a5 a6 a7 b0 b1 b2 b3 b4 b5 b6 b7 hAA hc1 hc2
    have gz := gx.up (upI : Up _ z.w)
    have uz : UpI w z.w := inferInstance
    clear gx hu
    generalize z.w = w1 at *
    rcases read_any_ev l with hL | ⟨e, eb, er, et, hL⟩
    · have hrl : ∀ w, GoodT w → Gives Tryd.prog 13 #[.string ⟨l.toArray⟩] w (.tuple #[Ev.zero.val, .int .i64 410]) := fun w g => (tr_read l w g hs).cast hL
      unfold Ev.val Ev.zero at hrl
      simp only at hrl
      clear hL
      by_cases hlen : l.length ≤ 200
      · go_wp2_with (go_at_call 13; refine (hrl _ (gz.up upI)).mono ?_; rintro e w' ⟨rfl, x, rfl⟩)
        go_ret
        exact ⟨rfl, mkI⟩
      · have hlen' : 200 < l.length := by omega
        clear hlen
        go_wp2_with (go_at_call 13; refine (hrl _ (gz.up upI)).mono ?_; rintro e w' ⟨rfl, x, rfl⟩)
        go_ret
        exact ⟨rfl, mkI⟩
    · have hrl : ∀ w, GoodT w → Gives Tryd.prog 13 #[.string ⟨l.toArray⟩] w (.tuple #[e.val, .int .i64 0]) := fun w g => (tr_read l w g hs).cast hL
      have htE : ∀ w, GoodT w → Gives Tryd.prog 12 #[.agg #[.int .i64 e.n, .int .u8 e.sd, .int .u8 e.r, .int .u8 e.pr, .int .u32 e.s, .int .u32 e.d, .int .u16 e.sp, .int .u16 e.dp]] w (.tuple #[.string ⟨l.toArray⟩, .int .i64 0]) := fun w g => (tr_text e.n e.sd e.r e.pr e.s e.d e.sp e.dp w g eb.sd0 eb.sd1 eb.r0 eb.r1 eb.key).cast (by unfold evTextS evTextE; rw [if_pos (show rightEv e.n e.sd e.r e.pr e.s e.d e.sp e.dp = true from er), if_pos (show rightEv e.n e.sd e.r e.pr e.s e.d e.sp e.dp = true from er), ← et]; rfl)
      unfold Ev.val at hrl
      clear hL et
      by_cases hlen : l.length ≤ 200
      · go_wp2_with (first
          | (go_at_call 13; refine (hrl _ (gz.up upI)).mono ?_; rintro e w' ⟨rfl, x, rfl⟩)
          | (go_at_call 12; refine (htE _ (gz.up upI)).mono ?_; rintro e w' ⟨rfl, x, rfl⟩))
        go_ret
        exact ⟨rfl, mkI⟩
      · have hlen' : 200 < l.length := by omega
        clear hlen
        go_wp2_with (go_at_call 13; refine (hrl _ (gz.up upI)).mono ?_; rintro e w' ⟨rfl, x, rfl⟩)
        go_ret
        exact ⟨rfl, mkI⟩
end Go.Proofs.YtdebpdjkkblcfaaDoor
