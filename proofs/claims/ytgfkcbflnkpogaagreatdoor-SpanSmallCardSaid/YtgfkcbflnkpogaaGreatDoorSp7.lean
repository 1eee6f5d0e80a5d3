/- Package span: what Union, Common, Without, Others and Within return. -/
import Derived.Test.YtgfkcbflnkpogaaGreatDoorSp6
set_option linter.unusedSimpArgs false
set_option linter.unusedVariables false
namespace Go.Ab
open Go.RowKit
theorem owns_sliceN {w : World} {base : Nat} {e : TypeId} {size n : Nat} {v : Value} {xs : List Value} (h : w.ownsRow base e size v n xs) : ∃ p c, v = .slice p n c := by
  rcases owns_sliceS h with ⟨rfl, rfl⟩ | ⟨g, cap, rfl, _, _⟩ <;> exact ⟨_, _, rfl⟩
end Go.Ab
namespace Go.Proofs.YtgfkcbflnkpogaaGreatDoor
open Go.RowKit Go.Ab
/-- What a call that makes a set gives. -/
def GivesS (f : FuncId) (args : Array Value) (w : World) (L : List Sp) : Prop :=
  Calls Tryz.prog f args w fun e w' => ∃ u, e = .returned (.tuple #[u, .int .i64 0]) ∧ w'.ownsRow w.heap.size 39 2 u L.length (L.flatMap spCells) ∧ ∃ x : Ext w, w' = x.w
theorem wrongLs_nil (a : List Sp) : wrongLs [a, []] = wrongL a := by
  rw [← wrongLs_one]
  unfold wrongLs
  have h : rightS [] = true := rfl
  simp [h]
theorem wrongLs_two0 {a b : List Sp} (ha : rightS a = true) (hb : rightS b = true) (la : a.length ≤ 4096) (lb : b.length ≤ 4096) : wrongLs [a, b] = 0 := by unfold wrongLs; rw [if_neg (by simp; omega), if_pos (by simp [ha, hb])]
theorem choose_is (F : Nat) (hE : ∀ args w, (callFunc F args).run Tryz.prog w = .ok (.enter F args) w) (t : Bool → Bool → Bool) (hT : ∀ p q W, Gives Tryz.prog F #[.bool p, .bool q] W (.bool (t p q))) (a b L : List Sp) (va vb : Value) (w : World) (ra : SpRow w va a) (rb : SpRow w vb b) (ha : rightS a = true) (hb : rightS b = true) (ba : ∀ x ∈ a, SpB x) (bb : ∀ x ∈ b, SpB x) (la : a.length ≤ 4096) (lb : b.length ≤ 4096) (hL : Chosen t a b L) :
    GivesS 35 #[va, vb, .func (.func F) #[] #[]] w L :=
  (choose_yes F hE t hT a b va vb w ra rb ha hb ba bb la lb).mono fun e w' ⟨u, o, h1, h2, _, h4, h5⟩ => ⟨u, h1, by rw [← h2.eq hL]; exact h4, h5⟩
set_option maxHeartbeats 8000000 in
set_option maxRecDepth 100000 in
theorem spunion_no (a b : List Sp) (va vb : Value) (w : World) (ra : SpRow w va a) (rb : SpRow w vb b) (ba : ∀ x ∈ a, SpB x) (bb : ∀ x ∈ b, SpB x) (la : a.length ≤ 1000000000) (lb : b.length ≤ 1000000000) (e : Int) (he : wrongLs [a, b] = e) (hz : (e != 0) = true) :
    Gives Tryz.prog 13 #[va, vb] w (.tuple #[.slice none 0 0, .int .i64 e]) := by
  have h := choose_no 36 a b va vb w ra rb ba bb la lb e he hz
  clear ra rb ba bb la lb he hz
  unfold Gives
  go_enter Tryz.func13, Tryz.ntmps13
  go_wp2_with (go_at_call 35; refine h.mono ?_; clear h; rintro e w' ⟨rfl, z, rfl⟩)
  go_ret2
  exact ⟨rfl, mkI⟩
set_option maxHeartbeats 8000000 in
set_option maxRecDepth 100000 in
theorem spunion_yes (a b : List Sp) (va vb : Value) (w : World) (ra : SpRow w va a) (rb : SpRow w vb b) (ha : rightS a = true) (hb : rightS b = true) (ba : ∀ x ∈ a, SpB x) (bb : ∀ x ∈ b, SpB x) (la : a.length ≤ 4096) (lb : b.length ≤ 4096) :
    GivesS 13 #[va, vb] w (unionL a b) := by
  have h := choose_is 36 (enters_of Tryz.func36 (by kernel_rfl) rfl) (fun p q => p || q) splus_any a b (unionL a b) va vb w ra rb ha hb ba bb la lb (chosen_union ha hb ba bb)
  clear ra rb ba bb la lb ha hb
  unfold GivesS at h ⊢
  go_enter Tryz.func13, Tryz.ntmps13
  go_wp2_with (go_at_call 35; refine h.mono ?_; clear h; rintro e w' ⟨u, rfl, Hown, z, rfl⟩)
  go_ret2
  exact ⟨_, rfl, Hown, mkI⟩
set_option maxHeartbeats 8000000 in
set_option maxRecDepth 100000 in
theorem spcommon_no (a b : List Sp) (va vb : Value) (w : World) (ra : SpRow w va a) (rb : SpRow w vb b) (ba : ∀ x ∈ a, SpB x) (bb : ∀ x ∈ b, SpB x) (la : a.length ≤ 1000000000) (lb : b.length ≤ 1000000000) (e : Int) (he : wrongLs [a, b] = e) (hz : (e != 0) = true) :
    Gives Tryz.prog 14 #[va, vb] w (.tuple #[.slice none 0 0, .int .i64 e]) := by
  have h := choose_no 37 a b va vb w ra rb ba bb la lb e he hz
  clear ra rb ba bb la lb he hz
  unfold Gives
  go_enter Tryz.func14, Tryz.ntmps14
  go_wp2_with (go_at_call 35; refine h.mono ?_; clear h; rintro e w' ⟨rfl, z, rfl⟩)
  go_ret2
  exact ⟨rfl, mkI⟩
set_option maxHeartbeats 8000000 in
set_option maxRecDepth 100000 in
theorem spcommon_yes (a b : List Sp) (va vb : Value) (w : World) (ra : SpRow w va a) (rb : SpRow w vb b) (ha : rightS a = true) (hb : rightS b = true) (ba : ∀ x ∈ a, SpB x) (bb : ∀ x ∈ b, SpB x) (la : a.length ≤ 4096) (lb : b.length ≤ 4096) :
    GivesS 14 #[va, vb] w (commonL a b) := by
  have h := choose_is 37 (enters_of Tryz.func37 (by kernel_rfl) rfl) (fun p q => p && q) spboth_any a b (commonL a b) va vb w ra rb ha hb ba bb la lb (chosen_common ha hb ba)
  clear ra rb ba bb la lb ha hb
  unfold GivesS at h ⊢
  go_enter Tryz.func14, Tryz.ntmps14
  go_wp2_with (go_at_call 35; refine h.mono ?_; clear h; rintro e w' ⟨u, rfl, Hown, z, rfl⟩)
  go_ret2
  exact ⟨_, rfl, Hown, mkI⟩
set_option maxHeartbeats 8000000 in
set_option maxRecDepth 100000 in
theorem spwithout_no (a b : List Sp) (va vb : Value) (w : World) (ra : SpRow w va a) (rb : SpRow w vb b) (ba : ∀ x ∈ a, SpB x) (bb : ∀ x ∈ b, SpB x) (la : a.length ≤ 1000000000) (lb : b.length ≤ 1000000000) (e : Int) (he : wrongLs [a, b] = e) (hz : (e != 0) = true) :
    Gives Tryz.prog 15 #[va, vb] w (.tuple #[.slice none 0 0, .int .i64 e]) := by
  have h := choose_no 38 a b va vb w ra rb ba bb la lb e he hz
  clear ra rb ba bb la lb he hz
  unfold Gives
  go_enter Tryz.func15, Tryz.ntmps15
  go_wp2_with (go_at_call 35; refine h.mono ?_; clear h; rintro e w' ⟨rfl, z, rfl⟩)
  go_ret2
  exact ⟨rfl, mkI⟩
set_option maxHeartbeats 8000000 in
set_option maxRecDepth 100000 in
theorem spwithout_yes (a b : List Sp) (va vb : Value) (w : World) (ra : SpRow w va a) (rb : SpRow w vb b) (ha : rightS a = true) (hb : rightS b = true) (ba : ∀ x ∈ a, SpB x) (bb : ∀ x ∈ b, SpB x) (la : a.length ≤ 4096) (lb : b.length ≤ 4096) :
    GivesS 15 #[va, vb] w (withoutL a b) := by
  have h := choose_is 38 (enters_of Tryz.func38 (by kernel_rfl) rfl) (fun p q => p && !q) spminus_any a b (withoutL a b) va vb w ra rb ha hb ba bb la lb (chosen_without ha hb ba)
  clear ra rb ba bb la lb ha hb
  unfold GivesS at h ⊢
  go_enter Tryz.func15, Tryz.ntmps15
  go_wp2_with (go_at_call 35; refine h.mono ?_; clear h; rintro e w' ⟨u, rfl, Hown, z, rfl⟩)
  go_ret2
  exact ⟨_, rfl, Hown, mkI⟩
set_option maxHeartbeats 8000000 in
set_option maxRecDepth 100000 in
theorem spothers_no (a : List Sp) (va : Value) (w : World) (ra : SpRow w va a) (ba : ∀ x ∈ a, SpB x) (la : a.length ≤ 1000000000) (e : Int) (he : wrongL a = e) (hz : (e != 0) = true) :
    Gives Tryz.prog 16 #[va] w (.tuple #[.slice none 0 0, .int .i64 e]) := by
  have h := choose_no 39 a [] va (.slice none 0 0) w ra (RowOf.nil w) ba (fun x h => by cases h) la (by simp) e ((wrongLs_nil a).trans he) hz
  clear ra ba la he hz
  unfold Gives
  go_enter Tryz.func16, Tryz.ntmps16
  go_wp2_with (go_at_call 35; refine h.mono ?_; clear h; rintro e w' ⟨rfl, z, rfl⟩)
  go_ret2
  exact ⟨rfl, mkI⟩
set_option maxHeartbeats 8000000 in
set_option maxRecDepth 100000 in
theorem spothers_yes (a : List Sp) (va : Value) (w : World) (ra : SpRow w va a) (ha : rightS a = true) (ba : ∀ x ∈ a, SpB x) (la : a.length ≤ 4096) :
    GivesS 16 #[va] w (othersL a) := by
  have h := choose_is 39 (enters_of Tryz.func39 (by kernel_rfl) rfl) (fun p _ => !p) spnot_any a [] (othersL a) va (.slice none 0 0) w ra (RowOf.nil w) ha rfl ba (fun x h => by cases h) la (by simp) (chosen_others ha)
  clear ra ba la ha
  unfold GivesS at h ⊢
  go_enter Tryz.func16, Tryz.ntmps16
  go_wp2_with (go_at_call 35; refine h.mono ?_; clear h; rintro e w' ⟨u, rfl, Hown, z, rfl⟩)
  go_ret2
  exact ⟨_, rfl, Hown, mkI⟩
set_option maxHeartbeats 8000000 in
set_option maxRecDepth 100000 in
theorem spwithin_no (a b : List Sp) (va vb : Value) (w : World) (ra : SpRow w va a) (rb : SpRow w vb b) (ba : ∀ x ∈ a, SpB x) (bb : ∀ x ∈ b, SpB x) (la : a.length ≤ 1000000000) (lb : b.length ≤ 1000000000) (e : Int) (he : wrongLs [a, b] = e) (hz : (e != 0) = true) :
    Gives Tryz.prog 19 #[va, vb] w (.tuple #[.bool false, .int .i64 e]) := by
  have h := spwithout_no a b va vb w ra rb ba bb la lb e he hz
  have hz' : (e == 0) = false := by simpa [bne] using hz
  clear ra rb ba bb la lb he hz
  unfold Gives
  go_enter Tryz.func19, Tryz.ntmps19
  go_wp2_with (go_at_call 15; refine h.mono ?_; clear h; rintro e w' ⟨rfl, z, rfl⟩)
  go_ret2
  exact ⟨rfl, mkI⟩
set_option maxHeartbeats 8000000 in
set_option maxRecDepth 100000 in
theorem spwithin_yes (a b : List Sp) (va vb : Value) (w : World) (ra : SpRow w va a) (rb : SpRow w vb b) (ha : rightS a = true) (hb : rightS b = true) (ba : ∀ x ∈ a, SpB x) (bb : ∀ x ∈ b, SpB x) (la : a.length ≤ 4096) (lb : b.length ≤ 4096) :
    Gives Tryz.prog 19 #[va, vb] w (.tuple #[.bool (decide (withoutL a b = [])), .int .i64 0]) := by
  have h := spwithout_yes a b va vb w ra rb ha hb ba bb la lb
  clear ra rb ba bb la lb ha hb
  generalize withoutL a b = L at *
  unfold GivesS at h
  obtain ⟨n, hn⟩ : ∃ n, L.length = n := ⟨_, rfl⟩
  have E := Lib.hid (show decide (L = []) = ((n : Int) == 0) by rw [← hn]; cases L <;> simp <;> omega)
  rw [hn] at h
  unfold Gives
  go_enter Tryz.func19, Tryz.ntmps19
  go_wp2_with (go_at_call 15; refine h.mono ?_; clear h; rintro e w' ⟨u, rfl, Hown, z, rfl⟩; obtain ⟨p, c, rfl⟩ := owns_sliceN Hown; clear Hown)
  go_ret2
  exact ⟨by rw [E.out]; rfl, mkI⟩
end Go.Proofs.YtgfkcbflnkpogaaGreatDoor
