/- The laws' own lists of events: plain facts; slices of small numbers. -/
import Derived.Test.YtdebpdjkkblcfaaDoorMade
import Derived.Test.YtdebpdjkkblcfaaDoorEqual
namespace Go.Ab
open Go.RowKit Go.Proofs.YtdebpdjkkblcfaaDoor
def Sm.cells (x : Sm) : List Value := [.int .u8 x.a, .int .u8 x.sd, .int .u8 x.r, .int .u8 x.p, .int .u32 x.s, .int .u32 x.d, .int .u16 x.sp, .int .u16 x.dp]
/-- A slice that came in, whose elements have k cells each. -/
def ArgRow (w : World) (v : Value) (n k : Nat) (cs : Nat → Nat → Option Value) : Prop :=
  (v = .slice none 0 0 ∧ n = 0) ∨ ∃ b o s cap, v = .slice (some ⟨b, o, s⟩) n cap ∧ n ≤ cap ∧ cap ≤ maxLen ∧ (0 < n → s = none ∧ b < w.heap.size ∧ ∀ i, i < n → ∀ j u, cs i j = some u → w.cell? ⟨b, o + i * k + j, none⟩ = some u)
def SmRow (w : World) (v : Value) (l : List Sm) : Prop := ArgRow w v l.length 8 fun i j => (l[i]?).bind fun x => x.cells[j]?
/-- The time behind some events. -/
def endN (n : Int) (l : List Sm) : Int := l.foldl (fun n x => (madeE n x).n) n
def madeFrom : Int → List Sm → List Ev
  | _, [] => []
  | n, x :: t => madeE n x :: madeFrom (madeE n x).n t
/-- The events of small numbers, in the order of their times. -/
def madeL (now : Int) (l : List Sm) : List Ev := madeFrom (now % 1073741824) (l.take 80)
theorem endN_snoc (n : Int) (l : List Sm) (x : Sm) : endN n (l ++ [x]) = (madeE (endN n l) x).n := by simp [endN]
theorem madeFrom_snoc : ∀ (l : List Sm) (n : Int) (x : Sm), madeFrom n (l ++ [x]) = madeFrom n l ++ [madeE (endN n l) x]
  | [], _, _ => rfl
  | y :: t, n, x => by
    rw [List.cons_append, madeFrom, madeFrom, madeFrom_snoc t _ x]
    rfl
theorem madeFrom_length : ∀ (l : List Sm) (n : Int), (madeFrom n l).length = l.length
  | [], _ => rfl
  | _ :: t, _ => by rw [madeFrom, List.length_cons, madeFrom_length t, List.length_cons]
theorem madeL_length (now : Int) (l : List Sm) : (madeL now l).length = min l.length 80 := by
  unfold madeL; rw [madeFrom_length, List.length_take]; omega
theorem endN_bd : ∀ (l : List Sm) (n : Int), n ≤ endN n l ∧ endN n l ≤ n + 3 * l.length
  | [], n => by simp [endN]
  | x :: t, n => by
    have h := endN_bd t (madeE n x).n
    have e : endN n (x :: t) = endN (madeE n x).n t := rfl
    rw [e]
    rw [madeE_n] at h ⊢
    rw [List.length_cons]
    omega
/-- Events that are right, one behind the other. -/
structure EvsOk (l : List Ev) : Prop where
  b : ∀ e ∈ l, EvB e
  r : ∀ e ∈ l, e.right = true
  t : ∀ k e, l[k]? = some e → takes (l.take k) e
theorem madeFrom_n : ∀ (l : List Sm) (n : Int) (e : Ev), e ∈ madeFrom n l → n ≤ e.n ∧ e.n ≤ n + 3 * l.length
  | [], _, _, h => by cases h
  | x :: t, n, e, h => by
    rw [madeFrom] at h
    rw [List.length_cons]
    rcases List.mem_cons.1 h with rfl | h
    · rw [madeE_n]; omega
    · have := madeFrom_n t _ e h
      rw [madeE_n] at this
      omega
theorem takes_le (l : List Ev) (e : Ev) (h : ∀ p ∈ l, p.n ≤ e.n) : takes l e := fun p hp => h p (List.mem_of_getLast? hp)
theorem madeFrom_sorted : ∀ (l : List Sm) (n : Int) (i j : Nat) (a b : Ev), i ≤ j → (madeFrom n l)[i]? = some a → (madeFrom n l)[j]? = some b → a.n ≤ b.n
  | [], _, _, _, _, _, _, h, _ => by simp [madeFrom] at h
  | x :: t, n, i, j, a, b, hij, ha, hb => by
    rw [madeFrom] at ha hb
    rcases i with _ | i
    · simp only [List.getElem?_cons_zero, Option.some.injEq] at ha
      subst ha
      rcases j with _ | j
      · simp only [List.getElem?_cons_zero, Option.some.injEq] at hb
        subst hb; omega
      · rw [List.getElem?_cons_succ] at hb
        exact (madeFrom_n t _ b (List.mem_of_getElem? hb)).1
    · rcases j with _ | j
      · omega
      · rw [List.getElem?_cons_succ] at ha hb
        exact madeFrom_sorted t _ i j a b (by omega) ha hb
theorem madeFrom_ok : ∀ (l : List Sm) (n : Int), (∀ x ∈ l, SmB x) → 0 ≤ n → n + 3 * l.length ≤ 1099511627773 → ∀ e ∈ madeFrom n l, EvB e ∧ e.right = true
  | [], _, _, _, _, e, h => by cases h
  | x :: t, n, hx, h0, h1, e, h => by
    rw [List.length_cons] at h1
    rw [madeFrom] at h
    rcases List.mem_cons.1 h with rfl | h
    · exact ⟨madeE_b n x (hx x (by simp)) (by omega) (by omega), madeE_r n x (hx x (by simp)) h0 (by omega)⟩
    · refine madeFrom_ok t _ (fun y hy => hx y (by simp [hy])) ?_ ?_ e h
      · rw [madeE_n]; omega
      · rw [madeE_n]; omega
theorem madeL_ok (now : Int) (l : List Sm) (hx : ∀ x ∈ l, SmB x) : EvsOk (madeL now l) := by
  have hl : ((l.take 80).length : Int) ≤ 80 := by rw [List.length_take]; omega
  have h := madeFrom_ok (l.take 80) (now % 1073741824) (fun x hm => hx x (List.mem_of_mem_take hm)) (by omega) (by omega)
  refine ⟨fun e he => (h e he).1, fun e he => (h e he).2, fun k e he => takes_le _ _ fun p hp => ?_⟩
  obtain ⟨i, hi⟩ := List.getElem?_of_mem hp
  rw [List.getElem?_take] at hi
  split at hi
  · exact madeFrom_sorted _ _ i k p e (by omega) hi he
  · cases hi
end Go.Ab
