/- Package dump: the iterator's value; its pairs without addresses; what a walk over them gives. -/
import Derived.Test.YtbojbnpafoaljaaDoorDP
import Derived.Test.YtbojbnpafoaljaaDoorEqLn
import Derived.Test.YtbojbnpafoaljaaDoorDiff
namespace Go.Ab
open Go.RowKit Go.Proofs.YtbojbnpafoaljaaDoor
def offP (x : PR) : Option Ln × Option Ln := (x.1.map Prod.fst, x.2.map Prod.fst)
theorem pairsP_off : ∀ (n : Nat) (a b : List LA), (pairsP n a b).map offP = pairsL n (a.map Prod.fst) (b.map Prod.fst)
  | 0, _, _ => rfl
  | n + 1, [], [] => rfl
  | n + 1, a :: us, [] => by rw [pairsP, List.map_cons, pairsP_off n us []]; rfl
  | n + 1, [], b :: vs => by rw [pairsP, List.map_cons, pairsP_off n [] vs]; rfl
  | n + 1, a :: us, b :: vs => by
    rw [pairsP]
    by_cases h1 : a.1.cmp b.1 < 0
    · rw [if_pos h1, List.map_cons, pairsP_off n us (b :: vs), List.map_cons, List.map_cons, pairsL, if_pos h1]; rfl
    · by_cases h2 : 0 < a.1.cmp b.1
      · rw [if_neg h1, if_pos h2, List.map_cons, pairsP_off n (a :: us) vs, List.map_cons, List.map_cons, pairsL, if_neg h1, if_pos h2]; rfl
      · rw [if_neg h1, if_neg h2, List.map_cons, pairsP_off n us vs, List.map_cons, List.map_cons, pairsL, if_neg h1, if_neg h2]; rfl
/-- Lines with their addresses. -/
def addrL (b o : Nat) (l : List Ln) : List LA := l.zipIdx.map fun p => (p.1, ⟨b, o + p.2 * 11, none⟩)
theorem addrL_at (b o : Nat) (l : List Ln) (i : Nat) (x : Ln) (ad : Addr) (h : (addrL b o l)[i]? = some (x, ad)) : l[i]? = some x ∧ ad = ⟨b, o + i * 11, none⟩ := by
  unfold addrL at h
  rw [List.getElem?_map, List.getElem?_zipIdx] at h
  cases hl : l[i]? with
  | none => rw [hl] at h; simp at h
  | some y => rw [hl] at h; simp at h; exact ⟨by rw [h.1], h.2.symm⟩
theorem addrL_fst (b o : Nat) (l : List Ln) : (addrL b o l).map Prod.fst = l := by
  unfold addrL
  rw [List.map_map]
  have : (Prod.fst ∘ fun p : Ln × Nat => ((p.1, ⟨b, o + p.2 * 11, none⟩) : LA)) = Prod.fst := rfl
  rw [this, List.zipIdx_map_fst]
theorem addrL_length (b o : Nat) (l : List Ln) : (addrL b o l).length = l.length := by simp [addrL]
theorem RowP.of_row {w : World} {p : Option Addr} {cap : Nat} {l : List Ln} (h : LnRow w (.slice p l.length cap) l) (hb : ∀ x ∈ l, LnB x) : l.length ≤ cap ∧ ∃ la : List LA, la.map Prod.fst = l ∧ la.length = l.length ∧ RowP w.heap.size w p la := by
  obtain ⟨p', cap', hv, hle, hc⟩ := h
  simp only [Value.slice.injEq, true_and] at hv
  obtain ⟨rfl, rfl⟩ := hv
  refine ⟨hle, ?_⟩
  cases l with
  | nil => exact ⟨[], rfl, rfl, fun i x ad hi => by simp at hi⟩
  | cons y t =>
    obtain ⟨b, o, rfl, _, _⟩ := hc 0 y rfl
    refine ⟨addrL b o (y :: t), addrL_fst b o _, addrL_length b o _, fun i x ad hi => ?_⟩
    obtain ⟨hx, rfl⟩ := addrL_at b o _ i x ad hi
    obtain ⟨b', o', hp, hbw, hcc⟩ := hc i x hx
    simp only [Option.some.injEq, Addr.mk.injEq, and_true] at hp
    obtain ⟨rfl, rfl⟩ := hp
    exact ⟨b, o, rfl, rfl, hbw, hb x (List.mem_of_getElem? hx), hcc⟩
end Go.Ab
namespace Go.Proofs.YtbojbnpafoaljaaDoor
open Go.RowKit Go.Ab
theorem pairs_any (va vb : Value) (w : World) (p q : Option Addr) (n m c d : Nat) (ha : va = .slice p n c) (hb : vb = .slice q m d) :
    Calls Tryd.prog 26 #[va, vb] w fun e w' =>
      e = .returned (.func (.func 43) #[] #[.pointer (some ⟨w.heap.size, 0, none⟩), .pointer (some ⟨w.heap.size + 1, 0, none⟩)]) ∧ (w.alloc (.cells #[va] 34)).alloc (.cells #[vb] 34) = w' := by
  subst ha
  subst hb
  go_enter Tryd.func26, Tryd.ntmps26
  go_wp2
  go_ret
  exact ⟨rfl, rfl⟩
end Go.Proofs.YtbojbnpafoaljaaDoor
