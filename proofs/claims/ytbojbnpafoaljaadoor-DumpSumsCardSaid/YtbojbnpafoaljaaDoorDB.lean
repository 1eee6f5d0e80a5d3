/- Package dump: words with spaces between them; the text of a line. -/
import Derived.Test.YtbojbnpafoaljaaDoorDA
import Derived.Deep.RegionHeld3
namespace Go.Ab
open Go.RowKit Go.Proofs.YtbojbnpafoaljaaDoor
def emptyB (s : ByteArray) : Bool := s.data.toList == []
def bytesL (xs : List (List UInt8)) : List ByteArray := xs.map fun x => ⟨x.toArray⟩
theorem bytesL_at (xs : List (List UInt8)) (j : Nat) (x : ByteArray) (h : (bytesL xs)[j]? = some x) : ∃ y, xs[j]? = some y ∧ x = ⟨y.toArray⟩ := by
  unfold bytesL at h
  rw [List.getElem?_map] at h
  obtain ⟨y, hy, rfl⟩ := Option.map_eq_some_iff.1 h
  exact ⟨y, hy, rfl⟩
theorem bytesL_filter (xs : List (List UInt8)) : (bytesL xs).filter (fun s => !emptyB s) = bytesL (xs.filter fun x => !x.isEmpty) := by
  unfold bytesL
  rw [List.filter_map]
  congr 1
  refine List.filter_congr fun x _ => ?_
  cases x <;> simp [emptyB]
theorem bytesL_lists (xs : List (List UInt8)) : (bytesL xs).map (·.data.toList) = xs := by
  unfold bytesL
  rw [List.map_map]
  exact List.map_id' xs
end Go.Ab
namespace Go.Proofs.YtbojbnpafoaljaaDoor
open Go.RowKit Go.Ab Go.Shelf Go.Sort
set_option maxHeartbeats 2000000 in
theorem words1_any (s : ByteArray) (W : World) : FnGives Tryd.prog 29 #[] #[.string s] (.bool (emptyB s)) W := by
  have hs : s.toList = s.data.toList := ByteArray.toList_eq s
  show Calls Tryd.prog 29 #[.string s] W _
  unfold emptyB
  go_enter Tryd.func29, Tryd.ntmps29
  go_wp2
  all_goals (go_ret; exact ⟨by simp_all, 0, rfl⟩)
set_option maxHeartbeats 4000000 in
set_option maxRecDepth 100000 in
theorem dwords_any (w0 w : World) (hu : Up w0 w) (b o c : Nat) (xs : List (List UInt8)) (hb : w0.heap.size ≤ b) (hbw : b < w.heap.size) (hc : xs.length ≤ c) (hsz : xs.length ≤ 1000)
    (hH : ∀ j x, xs[j]? = some x → w.cell? ⟨b, o + j, none⟩ = some (.string ⟨x.toArray⟩) ∧ w.frozen? ⟨b, o + j, none⟩ = false) (hlen : (joinW xs).length ≤ 140737488355328) :
    Calls Tryd.prog 14 #[.slice (some ⟨b, o, none⟩) xs.length c] w fun e w' => e = .returned (.string ⟨(joinW xs).toArray⟩) ∧ (∃ x : Ext w0, w' = x.w) ∧ ∀ j, o + xs.length ≤ j → w'.cell? ⟨b, j, none⟩ = w.cell? ⟨b, j, none⟩ := by
  have eg : ∀ args w, (callFunc 29 args).run Tryd.prog w = .ok (.enter 29 args) w := enters Tryd.func29 (by kernel_rfl) rfl
  have hd : (bytesL xs).toArray.size = xs.length := by simp [bytesL]
  have hget : ∀ j, j < xs.length → ∃ y, xs[j]? = some y ∧ (bytesL xs).toArray[j]! = ⟨y.toArray⟩ := fun j hj => by
    refine ⟨xs[j], List.getElem?_eq_getElem hj, ?_⟩
    rw [getElem!_pos _ j (by rw [hd]; exact hj)]
    simp [bytesL]
  have hHo : Holds Value.string w b o (bytesL xs).toArray := fun j hj => by
    rw [hd] at hj
    obtain ⟨y, hy, e⟩ := hget j hj
    rw [e]; exact hH j y hy
  have hcon := Tryd.slices_DeleteFunc Value.string (fun _ => rfl) emptyB 29 #[] eg ⟨#[]⟩ Tryd.zeroValue9 b o c (bytesL xs).toArray w (fun W x _ => words1_any x W) (fun _ _ _ x _ => words1_any x _) hHo (by rw [hd]; omega) (by rw [hd]; exact hc)
  rw [hd, List.toList_toArray, bytesL_filter] at hcon
  obtain ⟨ys, hys⟩ : ∃ ys, ys = xs.filter (fun x => !x.isEmpty) := ⟨_, rfl⟩
  rw [← hys] at hcon
  have hyl : ys.length ≤ xs.length := by rw [hys]; exact List.length_filter_le _ _
  have hbl : (bytesL ys).length = ys.length := by simp [bytesL]
  rw [hbl] at hcon
  unfold joinW at hlen ⊢
  rw [← hys] at hlen ⊢
  have hjoin : ∀ w' : World, (∃ q, w' = putRow Value.string (Sort.ahead w q) b o (bytesL ys ++ List.replicate (xs.length - ys.length) (⟨#[]⟩ : ByteArray)).toArray) → Gives Tryd.prog 27 #[.slice (some ⟨b, o, none⟩) ys.length c, .string ⟨#[32]⟩] w' (.string ⟨(Lib.join ys [32]).toArray⟩) := by
    rintro w' ⟨q, rfl⟩
    have hq : Holds Value.string (putRow Value.string (Sort.ahead w q) b o (bytesL ys ++ List.replicate (xs.length - ys.length) (⟨#[]⟩ : ByteArray)).toArray) b o (bytesL ys ++ List.replicate (xs.length - ys.length) (⟨#[]⟩ : ByteArray)).toArray :=
      holds_putRow _ _ b o (bytesL xs).toArray _ (holds_ahead _ w q b o _ hHo) (by simp [hbl, hd]; omega)
    have := Tryd.strings_Join b o c (bytesL ys) ⟨#[32]⟩ (putRow Value.string (Sort.ahead w q) b o (bytesL ys ++ List.replicate (xs.length - ys.length) (⟨#[]⟩ : ByteArray)).toArray) (fun j x hx => by
      have hj : j < ys.length := by rw [← hbl]; exact (List.getElem?_eq_some_iff.1 hx).1
      have h1 := (hq j (by simp [hbl]; omega)).1
      rw [h1, getElem!_pos _ j (by simp [hbl]; omega)]
      obtain ⟨_, he⟩ := List.getElem?_eq_some_iff.1 hx
      simp only [List.getElem_toArray]
      rw [List.getElem_append_left (by rw [hbl]; exact hj), he]) (by rw [size_putRow]; exact hbw) (by rw [hbl]; omega) (by rw [hbl]; omega) (by rw [bytesL_lists]; exact hlen)
    rw [bytesL_lists, hbl] at this
    exact Gives.of_below this
  have HC := Lib.hid hcon
  have HJ := Lib.hid hjoin
  clear hcon hjoin hHo hget hH hys hd hlen
  go_enter Tryd.func14, Tryd.ntmps14
  go_wp2_with (first
    | (go_at_call 28; refine HC.out.mono ?_; rintro e w' ⟨rfl, hq⟩)
    | (go_at_call 27; refine (HJ.out _ hq).mono ?_; rintro e w'' ⟨rfl, x, rfl⟩))
  go_ret
  obtain ⟨q, hq⟩ := hq
  have hup : Up w0 w' := by rw [hq]; exact up_putRow hu hb
  refine ⟨rfl, (hup.ext x).mk, fun j hj => ?_⟩
  have hbs : b < w'.heap.size := by rw [hq, size_putRow]; exact hbw
  rw [x.cell hbs, hq, cell?_putRow_other _ _ _ _ _ _ (.inr (.inr (by simp [hbl]; omega)))]
  rfl
end Go.Proofs.YtbojbnpafoaljaaDoor
