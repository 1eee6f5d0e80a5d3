/- A range over a function whose iterator may write into blocks of its own between two rounds: one law for the caller, one form for the iterator's contract. -/
import Derived.Test.YtdebpdjkkblcfaaGreatDoorBase
import Derived.RangeFuncNested
import Derived.RangeFuncBound
import Derived.RangeFuncCalls
import Derived.RangeFuncLeaves
import Derived.TacticsInMore
import Derived.OwnWalkIn
import Derived.LoopNIn
import Derived.LoopIn
import Derived.Shelf.Abstract
import Derived.OneCell
import Derived.Laws.AppendOwn
import Derived.Test.YtdebpdjkkblcfaaGreatDoorInst
namespace Go.Ab
open Go.RowKit

/-- A step of the other party: at most one old block is turned, and that is one of `own`. -/
def Turn (own : Nat → Prop) (A B : World) : Prop := ∃ row, A.grownBy B row ∧ ∀ r, row = some r → own r
/-- The blocks of `own` lie as they lay. -/
def Kept (own : Nat → Prop) (A B : World) : Prop := A.heap.size ≤ B.heap.size ∧ ∀ b, own b → b < A.heap.size → B.heap[b]? = A.heap[b]?
theorem Turn.mono {p q : Nat → Prop} {A B : World} (h : Turn p A B) (hpq : ∀ b, p b → q b) : Turn q A B := h.imp fun _ ⟨h1, h2⟩ => ⟨h1, fun r hr => hpq _ (h2 r hr)⟩
theorem Turn.same {p : Nat → Prop} {A B : World} (h : Turn p A B) {k : Nat} {o : Obj} (hk : A.heap[k]? = some o) (hn : ¬ p k) : B.heap[k]? = some o := by
  obtain ⟨row, hg, hr⟩ := h
  exact (hg.block k (Array.getElem?_eq_some_iff.1 hk).1 (fun e => hn (hr k e.symm))).trans hk
theorem Turn.up {p : Nat → Prop} {A B : World} {w : World} (h : Turn p A B) (hu : Up w A) (hp : ∀ b, p b → w.heap.size ≤ b) : Up w B := by
  obtain ⟨row, hg, hr⟩ := h
  exact hu.grown hg (fun k hk => hp k (hr k hk))
theorem Turn.below {p : Nat → Prop} {A B : World} {n : Nat} {w : World} (h : Turn p A B) (hu : Below n w A) (hn : n ≤ w.heap.size) (hp : ∀ b, p b → n ≤ b) : Below n w B := by
  obtain ⟨row, hg, hr⟩ := h
  exact hu.grown hg (Nat.le_trans hn hu.size) (fun k hk => hp k (hr k hk))
theorem turn_putObj {p : Nat → Prop} (W : World) (l : Nat) (o : Obj) (h : p l) : Turn p W (W.putObj l o) := ⟨some l, grownBy_putObj' W l o, fun r e => by cases e; exact h⟩
theorem Kept.refl (p : Nat → Prop) (A : World) : Kept p A A := ⟨Nat.le_refl _, fun _ _ _ => rfl⟩
theorem Kept.trans {p : Nat → Prop} {A B C : World} (h : Kept p A B) (k : Kept p B C) : Kept p A C :=
  ⟨Nat.le_trans h.1 k.1, fun b hb hl => (k.2 b hb (Nat.lt_of_lt_of_le hl h.1)).trans (h.2 b hb hl)⟩
theorem Kept.mono {p q : Nat → Prop} {A B : World} (h : Kept q A B) (hpq : ∀ b, p b → q b) : Kept p A B := ⟨h.1, fun b hb => h.2 b (hpq b hb)⟩
theorem Kept.at {p : Nat → Prop} {A B : World} (h : Kept p A B) {k : Nat} {o : Obj} (hk : A.heap[k]? = some o) (hp : p k) : B.heap[k]? = some o :=
  (h.2 k hp (Array.getElem?_eq_some_iff.1 hk).1).trans hk
theorem kept_putObj {p : Nat → Prop} (W : World) (l : Nat) (o : Obj) (h : ¬ p l) : Kept p W (W.putObj l o) := ⟨by simp, fun b hb _ => World.putObj_heap_other (fun e => h (e ▸ hb))⟩
theorem Kept.alloc {p : Nat → Prop} {A W : World} (h : Kept p A W) (o : Obj) : Kept p A (W.alloc o) := h.trans ⟨by simp, fun _ _ hb => Below.heap_alloc _ _ _ hb⟩
theorem Kept.drew {p : Nat → Prop} {A W : World} (h : Kept p A W) : Kept p A W.drew := h
theorem Kept.setCell {p : Nat → Prop} {A W : World} (h : Kept p A W) {a : Addr} (ha : ¬ p a.block) (v : Value) : Kept p A (W.setCell a v) :=
  h.trans ⟨by simp, fun b hb _ => Below.heap_setCell _ _ _ _ (fun e => ha (e ▸ hb))⟩
theorem Kept.grown {p : Nat → Prop} {A W W' : World} {row : Option Nat} (h : Kept p A W) (hg : W.grownBy W' row) (hr : ∀ r, row = some r → ¬ p r) : Kept p A W' :=
  h.trans ⟨hg.size, fun b hb hl => hg.block b hl (fun e => hr b e.symm hb)⟩
theorem Kept.up {p : Nat → Prop} {A W W' : World} (h : Kept p A W) (hu : Up W W') : Kept p A W' := h.trans ⟨hu.size, fun b _ hl => hu.block b hl⟩

/-- An iterator's contract: whatever the rounds keep of the caller's invariant J, if J does not mind the iterator's own blocks (`own n`, n: the heap's size when the iterator is called):
    what has come is a list of Pre; it returns, having handed over the elements of a list of S; or a round has said that it wants no more. -/
def SeqUp {α : Type} (P : Program) (g : Nat) (lb : Array Value) (encs : α → Array Value) (S Pre : List α → Prop) (own : Nat → Nat → Prop) (K0 : World → Prop) : Prop :=
  ∀ (l : Nat) (J Jx : List α → World → Prop) (W : World), K0 W →
    (∀ s A B, J s A → Turn (own W.heap.size) A B → J s B) → (∀ s A B, Jx s A → Turn (own W.heap.size) A B → Jx s B) →
    (∀ pre x W1, J pre W1 → Pre (pre ++ [x]) → YieldAt Fence.wide 0 P l (encs x) W1 fun e W' =>
      (e = .returned (.bool true) ∧ J (pre ++ [x]) W' ∧ Kept (own W.heap.size) W1 W') ∨ (e = .returned (.bool false) ∧ Jx (pre ++ [x]) W')) →
    J [] W → Calls P g (#[.func (.yield l) #[] #[]] ++ lb) W fun e W' => (∃ v, e = .returned v) ∧ ((∃ xs, S xs ∧ J xs W') ∨ ∃ pre, Jx pre W')

/-- How a round's body may be left. -/
def roundEnd {α : Type} (p : Nat → Prop) (I : List α → World → Prop) (Ix : Code → List α → World → Prop) (xs : List α) (W : World) : Exit → Act → World → Prop
  | .normal, _, W' => Kept p W W' ∧ I xs W'
  | .ret, _, W' => Kept p W W' ∧ Ix .ret xs W'
  | .exit id, _, W' => Kept p W W' ∧ Ix (.exit id) xs W'
  | .goto t, _, W' => Kept p W W' ∧ Ix (.goto t) xs W'
  | .panic _, _, _ => False
  | .outgrown, _, _ => False

/-- The blocks that a round must leave alone: the iterator's, the loop's record, the block for deferred calls (n: the heap's size where the loop begins). -/
def book (own : Nat → Nat → Prop) (n : Nat) (b : Nat) : Prop := own (n + 2) b ∨ b = n ∨ b = n + 1

theorem wp_rangeFunc_up {α : Type} {P : Program} {g : Operand} {ps : Array Tmp} {assign body : Code} {Q : Exit → Act → World → Prop} {a : Act} {w : World} {gf : Nat} {lb : Array Value}
    (hg : a.eval g = .func (.func gf) #[] lb) (eg : ∀ args w, (callFunc gf args).run P w = .ok (.enter gf args) w)
    {encs : α → Array Value} {S Pre : List α → Prop} {own : Nat → Nat → Prop} {K0 : World → Prop} (hseq : SeqUp P gf lb encs S Pre own K0) (hps : ∀ x, (encs x).size = ps.size)
    (hK0 : ∀ W1, Up w W1 → W1.heap.size = w.heap.size + 2 → K0 W1) (hown : ∀ b, own (w.heap.size + 2) b → b ≠ w.heap.size ∧ b ≠ w.heap.size + 1)
    (I : List α → World → Prop) (Ix : Code → List α → World → Prop) (A : List α → α → Act → World → Prop)
    (hI : ∀ s X Y, I s X → Turn (book own w.heap.size) X Y → I s Y) (hIx : ∀ c s X Y, Ix c s X → Turn (book own w.heap.size) X Y → Ix c s Y)
    (hA : ∀ s x a X Y, A s x a X → Turn (book own w.heap.size) X Y → A s x a Y) (h0 : ∀ W1, Up w W1 → W1.heap.size = w.heap.size + 2 → I [] W1)
    (hassign : ∀ (l : Nat) (pre : List α) (x : α) (W : World), I pre W → Pre (pre ++ [x]) →
      assign.wpIn (Fence.wide.inRound l) 0 P (Exit.then (fun a1 W1 => Kept (book own w.heap.size) W W1 ∧ A pre x a1 W1) (fun _ _ _ => False)) { tmps := (ps.zip (encs x)).foldl (fun t (p, v) => t.setIfInBounds p v) a.tmps, defers := [] } W)
    (hbody : ∀ (l : Nat) (pre : List α) (x : α) (a1 : Act) (W : World), A pre x a1 W → Pre (pre ++ [x]) → body.wpIn (Fence.wide.inRound l) 0 P (roundEnd (book own w.heap.size) I Ix (pre ++ [x]) W) a1 W)
    (hdone : ∀ (xs : List α) (W : World), S xs → I xs W → W.heap[w.heap.size]? = some (.deferred (some [])) → Q .normal { a with defers := { target := .collected w.heap.size, args := #[] } :: a.defers } W)
    (hstop : ∀ (c : Code) (pre : List α) (W : World), Ix c pre W → W.heap[w.heap.size]? = some (.deferred (some [])) → c.wp P Q { a with defers := { target := .collected w.heap.size, args := #[] } :: a.defers } W) :
    (Code.rangeFunc g ps assign body).wp P Q a w := by
  refine (wpIn_wide (n := 0)).1 (wpIn_rangeFunc ?_)
  intro fn hfn
  obtain ⟨lp, hlp⟩ : ∃ lp : LoopState → Option Code → Loop, lp = fun st pe => { state := st, pending := pe, fn, tmps := a.tmps, params := ps, assign, body, defers := w.heap.size } := ⟨_, rfl⟩
  obtain ⟨W1, hW1⟩ : ∃ W1, (w.alloc (.deferred (some []))).alloc (.loop (lp .ready none)) = W1 := ⟨_, rfl⟩
  have hsz : W1.heap.size = w.heap.size + 2 := by rw [← hW1]; simp
  have hup : Up w W1 := by rw [← hW1]; exact ((Up.refl w).alloc _).alloc _
  have hL1 : W1.heap[w.heap.size + 1]? = some (.loop (lp .ready none)) := by
    rw [← hW1]
    have := World.alloc_heap_new (w.alloc (.deferred (some []))) (.loop (lp .ready none))
    rwa [World.size_alloc] at this
  have hD1 : W1.heap[w.heap.size]? = some (.deferred (some [])) := by
    rw [← hW1]; exact (Below.heap_alloc _ _ _ (by simp)).trans (World.alloc_heap_new w _)
  have bl : book own w.heap.size (w.heap.size + 1) := .inr (.inr rfl)
  have bd : book own w.heap.size w.heap.size := .inr (.inl rfl)
  have nl : ¬ own W1.heap.size (w.heap.size + 1) := by rw [hsz]; exact fun h => (hown _ h).2 rfl
  have nd : ¬ own W1.heap.size w.heap.size := by rw [hsz]; exact fun h => (hown _ h).1 rfl
  have ob : ∀ b, own W1.heap.size b → book own w.heap.size b := by rw [hsz]; exact fun b h => .inl h
  refine ⟨w.heap.size + 1, [{ target := .collected w.heap.size, args := #[] }], W1, { target := .fn (.func gf) lb, args := #[.func (.yield (w.heap.size + 1)) #[] #[]] }, W1, gf,
    #[.func (.yield (w.heap.size + 1)) #[] #[]] ++ lb, W1, ?_, ?_, fun _ _ => trivial, ?_, (fun h => by cases h), ?_⟩
  · rw [← hW1, hlp]; exact run_enterLoop_outer _ _ _ _ _
  · simp only [resolve, hg]
    simp [go_sem]
  · simp [invoke, go_sem, eg]
  refine callsIn_wide.2 ((hseq (w.heap.size + 1)
    (fun pre W => I pre W ∧ W.heap[w.heap.size + 1]? = some (.loop (lp .ready none)) ∧ W.heap[w.heap.size]? = some (.deferred (some [])))
    (fun pre W => ∃ c, Ix c pre W ∧ W.heap[w.heap.size + 1]? = some (.loop (lp .done (some c))) ∧ W.heap[w.heap.size]? = some (.deferred (some [])))
    W1 (hK0 W1 hup hsz) (fun s X Y ⟨h1, h2, h3⟩ ht => ⟨hI s X Y h1 (ht.mono ob), ht.same h2 nl, ht.same h3 nd⟩)
    (fun s X Y ⟨c, h1, h2, h3⟩ ht => ⟨c, hIx c s X Y h1 (ht.mono ob), ht.same h2 nl, ht.same h3 nd⟩) ?_ ⟨h0 W1 hup hsz, hL1, hD1⟩).mono ?_)
  · rintro pre x W ⟨hi, hl, hd⟩ hpre
    have hy := run_yield (P := P) (args := encs x) hl (by rw [hlp]; exact hps x)
    rw [hlp] at hy
    refine ⟨fn, _, assign, body, hy, roundIn_of_wpIn hfn (wpIn_mono (hassign _ pre x W hi hpre) ?_)⟩
    rintro e a1 Wa hp
    cases e with
    | normal =>
      obtain ⟨hk, ha⟩ := hp
      have hla := hk.at hl bl
      have hda := hk.at hd bd
      refine ⟨_, run_beginRound hla (by rw [hlp]), wpIn_mono (hbody _ pre x a1 _ (hA _ _ _ _ _ ha (turn_putObj _ _ _ bl)) hpre) ?_⟩
      have hlt : w.heap.size + 1 < Wa.heap.size := (Array.getElem?_eq_some_iff.1 hla).1
      have hl2 : (Wa.putObj (w.heap.size + 1) (.loop { lp .ready none with state := .busy })).heap[w.heap.size + 1]? = some (.loop { lp .ready none with state := .busy }) := World.putObj_heap_same hlt
      have hd2 : (Wa.putObj (w.heap.size + 1) (.loop { lp .ready none with state := .busy })).heap[w.heap.size]? = some (.deferred (some [])) := (World.putObj_heap_other (by omega)).trans hda
      have hk2 : Kept (own W1.heap.size) W (Wa.putObj (w.heap.size + 1) (.loop { lp .ready none with state := .busy })) := (hk.mono ob).trans (kept_putObj _ _ _ nl)
      have fin : ∀ (jump : Option Code) (W3 : World), Kept (book own w.heap.size) (Wa.putObj (w.heap.size + 1) (.loop { lp .ready none with state := .busy })) W3 →
          (Instr.endRound (w.heap.size + 1) jump).run P W3 = .ok (.bool jump.isNone) (W3.putObj (w.heap.size + 1) (.loop (lp (if jump.isNone then .ready else .done) jump))) ∧
          (W3.putObj (w.heap.size + 1) (.loop (lp (if jump.isNone then .ready else .done) jump))).heap[w.heap.size + 1]? = some (.loop (lp (if jump.isNone then .ready else .done) jump)) ∧
          (W3.putObj (w.heap.size + 1) (.loop (lp (if jump.isNone then .ready else .done) jump))).heap[w.heap.size]? = some (.deferred (some [])) ∧
          Kept (own W1.heap.size) W (W3.putObj (w.heap.size + 1) (.loop (lp (if jump.isNone then .ready else .done) jump))) := fun jump W3 hk3 => by
        have hl3 := hk3.at hl2 bl
        have hr := run_endRound (P := P) jump hl3
        rw [hlp] at hr ⊢
        exact ⟨hr, World.putObj_heap_same (Array.getElem?_eq_some_iff.1 hl3).1, (World.putObj_heap_other (by omega)).trans (hk3.at hd2 bd), (by rw [hlp] at hk2 hk3; exact (hk2.trans (hk3.mono ob)).trans (kept_putObj _ _ _ nl))⟩
      rintro e2 a3 W3 hp3
      cases e2 with
      | normal =>
        obtain ⟨hk3, hi3⟩ := hp3
        obtain ⟨hr, h1, h2, h3⟩ := fin none W3 hk3
        exact ⟨_, _, hr, .inl ⟨rfl, ⟨hI _ _ _ hi3 (turn_putObj _ _ _ bl), h1, h2⟩, h3⟩⟩
      | ret =>
        obtain ⟨hk3, hi3⟩ := hp3
        obtain ⟨hr, h1, h2, _⟩ := fin (some .ret) W3 hk3
        exact ⟨_, _, hr, .inr ⟨rfl, .ret, hIx _ _ _ _ hi3 (turn_putObj _ _ _ bl), h1, h2⟩⟩
      | exit id =>
        obtain ⟨hk3, hi3⟩ := hp3
        obtain ⟨hr, h1, h2, _⟩ := fin (some (.exit id)) W3 hk3
        exact ⟨_, _, hr, .inr ⟨rfl, .exit id, hIx _ _ _ _ hi3 (turn_putObj _ _ _ bl), h1, h2⟩⟩
      | goto t =>
        obtain ⟨hk3, hi3⟩ := hp3
        obtain ⟨hr, h1, h2, _⟩ := fin (some (.goto t)) W3 hk3
        exact ⟨_, _, hr, .inr ⟨rfl, .goto t, hIx _ _ _ _ hi3 (turn_putObj _ _ _ bl), h1, h2⟩⟩
      | panic ch => exact hp3.elim
      | outgrown => exact hp3.elim
    | ret => exact hp.elim
    | exit id => exact hp.elim
    | goto t => exact hp.elim
    | panic ch => exact hp.elim
    | outgrown => exact hp.elim
  · rintro e W2 ⟨⟨v, rfl⟩, (⟨xs, hS, hi, hl, hd⟩ | ⟨pre, c, hi, hl, hd⟩)⟩
    · exact ⟨none, _, by have := run_endLoop (P := P) hl (by rw [hlp]; simp); rw [hlp] at this; exact this, hdone xs _ hS (hI _ _ _ hi (turn_putObj _ _ _ bl)) ((World.putObj_heap_other (by omega)).trans hd)⟩
    · exact ⟨some c, _, by have := run_endLoop (P := P) hl (by rw [hlp]; simp); rw [hlp] at this; exact this, wpIn_wide.2 (hstop c pre _ (hIx _ _ _ _ hi (turn_putObj _ _ _ bl)) ((World.putObj_heap_other (by omega)).trans hd))⟩
theorem enters {P : Program} {f : FuncId} {fn : Func} {c : Code} (hf : P.funcs[f]? = some fn) (hname : (fn.name == "runtime.NumGoroutine") = false) (hb : fn.body = some c) :
    ∀ (args : Array Value) (w : World), (callFunc f args).run P w = .ok (.enter f args) w := Go.Proofs.enters_of hf hname hb
theorem Turn.size {p : Nat → Prop} {A B : World} (h : Turn p A B) : A.heap.size ≤ B.heap.size := by obtain ⟨row, hg, _⟩ := h; exact hg.size
theorem owns_turn {p : Nat → Prop} {A B : World} {base : Nat} {e : TypeId} {size : Nat} {v : Value} {n : Nat} {xs : List Value} (ht : Turn p A B) (h : A.ownsRow base e size v n xs) (hp : ∀ b, p b → b < base) : B.ownsRow base e size v n xs := by
  obtain ⟨h1, h2⟩ := h
  refine ⟨h1, ?_⟩
  rcases h2 with h2 | ⟨g, cap, cur, hv, hg, hh, r⟩
  · exact Or.inl h2
  · exact Or.inr ⟨g, cap, cur, hv, hg, ht.same hh (fun hb => by have := hp g hb; omega), r⟩
theorem owns_setBlock {w : World} {base : Nat} {e : TypeId} {size : Nat} {v : Value} {n : Nat} {xs : List Value} (h : w.ownsRow base e size v n xs) {a : Addr} (ha : a.block < base) (u : Value) : (w.setCell a u).ownsRow base e size v n xs :=
  ownsRow_setCell_below h ha u
theorem foldl_one (tm : Array Value) (p : Nat) (v : Value) : (Array.zip #[p] #[v]).foldl (fun t (p, v) => t.setIfInBounds p v) tm = tm.setIfInBounds p v := by simp
theorem foldl_two (tm : Array Value) (p q : Nat) (u v : Value) : (Array.zip #[p, q] #[u, v]).foldl (fun t (p, v) => t.setIfInBounds p v) tm = (tm.setIfInBounds p u).setIfInBounds q v := by simp
theorem owns_slice {w : World} {base : Nat} {e : TypeId} {size : Nat} {v : Value} {n : Nat} {xs : List Value} (h : w.ownsRow base e size v (n + 1) xs) : ∃ g cap, v = .slice (some ⟨g, 0, none⟩) (n + 1) cap ∧ base ≤ g := by
  obtain ⟨_, ⟨_, h0⟩ | ⟨g, cap, cur, hv, hg, _⟩⟩ := h
  · omega
  · exact ⟨g, cap, hv, hg⟩
theorem owns_base {w : World} {base base' : Nat} {e : TypeId} {size : Nat} {v : Value} {n : Nat} {xs : List Value} (h : w.ownsRow base e size v n xs) (hb : base' ≤ base) : w.ownsRow base' e size v n xs := by
  obtain ⟨h1, h2⟩ := h
  refine ⟨h1, ?_⟩
  rcases h2 with h2 | ⟨g, cap, cur, hv, hg, r⟩
  · exact Or.inl h2
  · exact Or.inr ⟨g, cap, cur, hv, Nat.le_trans hb hg, r⟩
end Go.Ab
namespace Go.Ab
open Go.RowKit
/-- As SeqUp, but what the rounds must keep (kp) may be more than what the iterator turns (own): whatever the rounds keep of the caller's invariant J, if J does not mind the iterator's own blocks (`own n`, n: the heap's size when the iterator is called):
    what has come is a list of Pre; it returns, having handed over the elements of a list of S; or a round has said that it wants no more. -/
def SeqUpK {α : Type} (P : Program) (g : Nat) (lb : Array Value) (encs : α → Array Value) (S Pre : List α → Prop) (own kp : Nat → Nat → Prop) (K0 : World → Prop) : Prop :=
  ∀ (l : Nat) (J Jx : List α → World → Prop) (W : World), K0 W →
    (∀ s A B, J s A → Turn (own W.heap.size) A B → J s B) → (∀ s A B, Jx s A → Turn (own W.heap.size) A B → Jx s B) →
    (∀ pre x W1, J pre W1 → Pre (pre ++ [x]) → YieldAt Fence.wide 0 P l (encs x) W1 fun e W' =>
      (e = .returned (.bool true) ∧ J (pre ++ [x]) W' ∧ Kept (kp W.heap.size) W1 W') ∨ (e = .returned (.bool false) ∧ Jx (pre ++ [x]) W')) →
    J [] W → Calls P g (#[.func (.yield l) #[] #[]] ++ lb) W fun e W' => (∃ v, e = .returned v) ∧ ((∃ xs, S xs ∧ J xs W') ∨ ∃ pre, Jx pre W')

theorem wp_rangeFunc_upK {α : Type} {P : Program} {g : Operand} {ps : Array Tmp} {assign body : Code} {Q : Exit → Act → World → Prop} {a : Act} {w : World} {gf : Nat} {lb : Array Value}
    (hg : a.eval g = .func (.func gf) #[] lb) (eg : ∀ args w, (callFunc gf args).run P w = .ok (.enter gf args) w)
    {encs : α → Array Value} {S Pre : List α → Prop} {own kp : Nat → Nat → Prop} {K0 : World → Prop} (hseq : SeqUpK P gf lb encs S Pre own kp K0) (hps : ∀ x, (encs x).size = ps.size)
    (hK0 : ∀ W1, Up w W1 → W1.heap.size = w.heap.size + 2 → K0 W1) (hown : ∀ b, own (w.heap.size + 2) b → b ≠ w.heap.size ∧ b ≠ w.heap.size + 1) (hkp : ∀ b, kp (w.heap.size + 2) b → b ≠ w.heap.size ∧ b ≠ w.heap.size + 1)
    (I : List α → World → Prop) (Ix : Code → List α → World → Prop) (A : List α → α → Act → World → Prop)
    (hI : ∀ s X Y, I s X → Turn (book own w.heap.size) X Y → I s Y) (hIx : ∀ c s X Y, Ix c s X → Turn (book own w.heap.size) X Y → Ix c s Y)
    (hA : ∀ s x a X Y, A s x a X → Turn (book own w.heap.size) X Y → A s x a Y) (h0 : ∀ W1, Up w W1 → W1.heap.size = w.heap.size + 2 → I [] W1)
    (hassign : ∀ (l : Nat) (pre : List α) (x : α) (W : World), I pre W → Pre (pre ++ [x]) →
      assign.wpIn (Fence.wide.inRound l) 0 P (Exit.then (fun a1 W1 => Kept (book kp w.heap.size) W W1 ∧ A pre x a1 W1) (fun _ _ _ => False)) { tmps := (ps.zip (encs x)).foldl (fun t (p, v) => t.setIfInBounds p v) a.tmps, defers := [] } W)
    (hbody : ∀ (l : Nat) (pre : List α) (x : α) (a1 : Act) (W : World), A pre x a1 W → Pre (pre ++ [x]) → body.wpIn (Fence.wide.inRound l) 0 P (roundEnd (book kp w.heap.size) I Ix (pre ++ [x]) W) a1 W)
    (hdone : ∀ (xs : List α) (W : World), S xs → I xs W → W.heap[w.heap.size]? = some (.deferred (some [])) → Q .normal { a with defers := { target := .collected w.heap.size, args := #[] } :: a.defers } W)
    (hstop : ∀ (c : Code) (pre : List α) (W : World), Ix c pre W → W.heap[w.heap.size]? = some (.deferred (some [])) → c.wp P Q { a with defers := { target := .collected w.heap.size, args := #[] } :: a.defers } W) :
    (Code.rangeFunc g ps assign body).wp P Q a w := by
  refine (wpIn_wide (n := 0)).1 (wpIn_rangeFunc ?_)
  intro fn hfn
  obtain ⟨lp, hlp⟩ : ∃ lp : LoopState → Option Code → Loop, lp = fun st pe => { state := st, pending := pe, fn, tmps := a.tmps, params := ps, assign, body, defers := w.heap.size } := ⟨_, rfl⟩
  obtain ⟨W1, hW1⟩ : ∃ W1, (w.alloc (.deferred (some []))).alloc (.loop (lp .ready none)) = W1 := ⟨_, rfl⟩
  have hsz : W1.heap.size = w.heap.size + 2 := by rw [← hW1]; simp
  have hup : Up w W1 := by rw [← hW1]; exact ((Up.refl w).alloc _).alloc _
  have hL1 : W1.heap[w.heap.size + 1]? = some (.loop (lp .ready none)) := by
    rw [← hW1]
    have := World.alloc_heap_new (w.alloc (.deferred (some []))) (.loop (lp .ready none))
    rwa [World.size_alloc] at this
  have hD1 : W1.heap[w.heap.size]? = some (.deferred (some [])) := by
    rw [← hW1]; exact (Below.heap_alloc _ _ _ (by simp)).trans (World.alloc_heap_new w _)
  have bl : book own w.heap.size (w.heap.size + 1) := .inr (.inr rfl)
  have blk : book kp w.heap.size (w.heap.size + 1) := .inr (.inr rfl)
  have bdk : book kp w.heap.size w.heap.size := .inr (.inl rfl)
  have nl : ¬ own W1.heap.size (w.heap.size + 1) := by rw [hsz]; exact fun h => (hown _ h).2 rfl
  have nd : ¬ own W1.heap.size w.heap.size := by rw [hsz]; exact fun h => (hown _ h).1 rfl
  have nlk : ¬ kp W1.heap.size (w.heap.size + 1) := by rw [hsz]; exact fun h => (hkp _ h).2 rfl
  have obk : ∀ b, kp W1.heap.size b → book kp w.heap.size b := by rw [hsz]; exact fun b h => .inl h
  have ob : ∀ b, own W1.heap.size b → book own w.heap.size b := by rw [hsz]; exact fun b h => .inl h
  refine ⟨w.heap.size + 1, [{ target := .collected w.heap.size, args := #[] }], W1, { target := .fn (.func gf) lb, args := #[.func (.yield (w.heap.size + 1)) #[] #[]] }, W1, gf,
    #[.func (.yield (w.heap.size + 1)) #[] #[]] ++ lb, W1, ?_, ?_, fun _ _ => trivial, ?_, (fun h => by cases h), ?_⟩
  · rw [← hW1, hlp]; exact run_enterLoop_outer _ _ _ _ _
  · simp only [resolve, hg]
    simp [go_sem]
  · simp [invoke, go_sem, eg]
  refine callsIn_wide.2 ((hseq (w.heap.size + 1)
    (fun pre W => I pre W ∧ W.heap[w.heap.size + 1]? = some (.loop (lp .ready none)) ∧ W.heap[w.heap.size]? = some (.deferred (some [])))
    (fun pre W => ∃ c, Ix c pre W ∧ W.heap[w.heap.size + 1]? = some (.loop (lp .done (some c))) ∧ W.heap[w.heap.size]? = some (.deferred (some [])))
    W1 (hK0 W1 hup hsz) (fun s X Y ⟨h1, h2, h3⟩ ht => ⟨hI s X Y h1 (ht.mono ob), ht.same h2 nl, ht.same h3 nd⟩)
    (fun s X Y ⟨c, h1, h2, h3⟩ ht => ⟨c, hIx c s X Y h1 (ht.mono ob), ht.same h2 nl, ht.same h3 nd⟩) ?_ ⟨h0 W1 hup hsz, hL1, hD1⟩).mono ?_)
  · rintro pre x W ⟨hi, hl, hd⟩ hpre
    have hy := run_yield (P := P) (args := encs x) hl (by rw [hlp]; exact hps x)
    rw [hlp] at hy
    refine ⟨fn, _, assign, body, hy, roundIn_of_wpIn hfn (wpIn_mono (hassign _ pre x W hi hpre) ?_)⟩
    rintro e a1 Wa hp
    cases e with
    | normal =>
      obtain ⟨hk, ha⟩ := hp
      have hla := hk.at hl blk
      have hda := hk.at hd bdk
      refine ⟨_, run_beginRound hla (by rw [hlp]), wpIn_mono (hbody _ pre x a1 _ (hA _ _ _ _ _ ha (turn_putObj _ _ _ bl)) hpre) ?_⟩
      have hlt : w.heap.size + 1 < Wa.heap.size := (Array.getElem?_eq_some_iff.1 hla).1
      have hl2 : (Wa.putObj (w.heap.size + 1) (.loop { lp .ready none with state := .busy })).heap[w.heap.size + 1]? = some (.loop { lp .ready none with state := .busy }) := World.putObj_heap_same hlt
      have hd2 : (Wa.putObj (w.heap.size + 1) (.loop { lp .ready none with state := .busy })).heap[w.heap.size]? = some (.deferred (some [])) := (World.putObj_heap_other (by omega)).trans hda
      have hk2 : Kept (kp W1.heap.size) W (Wa.putObj (w.heap.size + 1) (.loop { lp .ready none with state := .busy })) := (hk.mono obk).trans (kept_putObj _ _ _ nlk)
      have fin : ∀ (jump : Option Code) (W3 : World), Kept (book kp w.heap.size) (Wa.putObj (w.heap.size + 1) (.loop { lp .ready none with state := .busy })) W3 →
          (Instr.endRound (w.heap.size + 1) jump).run P W3 = .ok (.bool jump.isNone) (W3.putObj (w.heap.size + 1) (.loop (lp (if jump.isNone then .ready else .done) jump))) ∧
          (W3.putObj (w.heap.size + 1) (.loop (lp (if jump.isNone then .ready else .done) jump))).heap[w.heap.size + 1]? = some (.loop (lp (if jump.isNone then .ready else .done) jump)) ∧
          (W3.putObj (w.heap.size + 1) (.loop (lp (if jump.isNone then .ready else .done) jump))).heap[w.heap.size]? = some (.deferred (some [])) ∧
          Kept (kp W1.heap.size) W (W3.putObj (w.heap.size + 1) (.loop (lp (if jump.isNone then .ready else .done) jump))) := fun jump W3 hk3 => by
        have hl3 := hk3.at hl2 blk
        have hr := run_endRound (P := P) jump hl3
        rw [hlp] at hr ⊢
        exact ⟨hr, World.putObj_heap_same (Array.getElem?_eq_some_iff.1 hl3).1, (World.putObj_heap_other (by omega)).trans (hk3.at hd2 bdk), (by rw [hlp] at hk2 hk3; exact (hk2.trans (hk3.mono obk)).trans (kept_putObj _ _ _ nlk))⟩
      rintro e2 a3 W3 hp3
      cases e2 with
      | normal =>
        obtain ⟨hk3, hi3⟩ := hp3
        obtain ⟨hr, h1, h2, h3⟩ := fin none W3 hk3
        exact ⟨_, _, hr, .inl ⟨rfl, ⟨hI _ _ _ hi3 (turn_putObj _ _ _ bl), h1, h2⟩, h3⟩⟩
      | ret =>
        obtain ⟨hk3, hi3⟩ := hp3
        obtain ⟨hr, h1, h2, _⟩ := fin (some .ret) W3 hk3
        exact ⟨_, _, hr, .inr ⟨rfl, .ret, hIx _ _ _ _ hi3 (turn_putObj _ _ _ bl), h1, h2⟩⟩
      | exit id =>
        obtain ⟨hk3, hi3⟩ := hp3
        obtain ⟨hr, h1, h2, _⟩ := fin (some (.exit id)) W3 hk3
        exact ⟨_, _, hr, .inr ⟨rfl, .exit id, hIx _ _ _ _ hi3 (turn_putObj _ _ _ bl), h1, h2⟩⟩
      | goto t =>
        obtain ⟨hk3, hi3⟩ := hp3
        obtain ⟨hr, h1, h2, _⟩ := fin (some (.goto t)) W3 hk3
        exact ⟨_, _, hr, .inr ⟨rfl, .goto t, hIx _ _ _ _ hi3 (turn_putObj _ _ _ bl), h1, h2⟩⟩
      | panic ch => exact hp3.elim
      | outgrown => exact hp3.elim
    | ret => exact hp.elim
    | exit id => exact hp.elim
    | goto t => exact hp.elim
    | panic ch => exact hp.elim
    | outgrown => exact hp.elim
  · rintro e W2 ⟨⟨v, rfl⟩, (⟨xs, hS, hi, hl, hd⟩ | ⟨pre, c, hi, hl, hd⟩)⟩
    · exact ⟨none, _, by have := run_endLoop (P := P) hl (by rw [hlp]; simp); rw [hlp] at this; exact this, hdone xs _ hS (hI _ _ _ hi (turn_putObj _ _ _ bl)) ((World.putObj_heap_other (by omega)).trans hd)⟩
    · exact ⟨some c, _, by have := run_endLoop (P := P) hl (by rw [hlp]; simp); rw [hlp] at this; exact this, wpIn_wide.2 (hstop c pre _ (hIx _ _ _ _ hi (turn_putObj _ _ _ bl)) ((World.putObj_heap_other (by omega)).trans hd))⟩
end Go.Ab
