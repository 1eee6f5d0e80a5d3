/- Which changes no two dumps have (plain laws). Changes and slices of lines and changes that are written out: what the model builds. -/
import Derived.Test.YteciigbonaecoaaGreatDoorDApp
import Derived.Test.YteciigbonaecoaaGreatDoorDList
namespace Go.Ab
open Go.RowKit Go.Proofs.YteciigbonaecoaaGreatDoor
theorem pairsL_mem : ∀ (n : Nat) (a b : List Ln) (p : Option Ln × Option Ln), p ∈ pairsL n a b → (∀ x, p.1 = some x → x ∈ a) ∧ (∀ y, p.2 = some y → y ∈ b)
  | 0, _, _, p, h => by rw [pairsL] at h; cases h
  | n + 1, [], [], p, h => by rw [pairsL] at h; cases h
  | n + 1, a :: us, [], p, h => by
    rw [pairsL] at h
    rcases List.mem_cons.1 h with rfl | h
    · exact ⟨fun x e => (by cases e; simp), fun y e => (by cases e)⟩
    · have := pairsL_mem n us [] p h
      exact ⟨fun x e => by simp [this.1 x e], fun y e => this.2 y e⟩
  | n + 1, [], b :: vs, p, h => by
    rw [pairsL] at h
    rcases List.mem_cons.1 h with rfl | h
    · exact ⟨fun x e => (by cases e), fun y e => (by cases e; simp)⟩
    · have := pairsL_mem n [] vs p h
      exact ⟨fun x e => this.1 x e, fun y e => by simp [this.2 y e]⟩
  | n + 1, a :: us, b :: vs, p, h => by
    rw [pairsL] at h
    split at h
    · rcases List.mem_cons.1 h with rfl | h
      · exact ⟨fun x e => (by cases e; simp), fun y e => (by cases e)⟩
      · have := pairsL_mem n us (b :: vs) p h
        exact ⟨fun x e => by simp [this.1 x e], fun y e => this.2 y e⟩
    · split at h
      · rcases List.mem_cons.1 h with rfl | h
        · exact ⟨fun x e => (by cases e), fun y e => (by cases e; simp)⟩
        · have := pairsL_mem n (a :: us) vs p h
          exact ⟨fun x e => this.1 x e, fun y e => by simp [this.2 y e]⟩
      · rcases List.mem_cons.1 h with rfl | h
        · exact ⟨fun x e => (by cases e; simp), fun y e => (by cases e; simp)⟩
        · have := pairsL_mem n us vs p h
          exact ⟨fun x e => by simp [this.1 x e], fun y e => by simp [this.2 y e]⟩
/-- What a change between two dumps is. -/
theorem diffL_mem (a b : List Ln) (c : Ch) (h : c ∈ diffL a b) : (c.kind = 1 ∧ c.old = Ln.zero ∧ c.new ∈ b) ∨ (c.kind = 2 ∧ c.old ∈ a ∧ c.new = Ln.zero) ∨ (c.kind = 3 ∧ c.old ∈ a ∧ c.new ∈ b ∧ c.old ≠ c.new) := by
  unfold diffL at h
  obtain ⟨p, hp, hc⟩ := List.mem_flatMap.1 h
  have hm := pairsL_mem _ _ _ p hp
  obtain ⟨p1, p2⟩ := p
  cases p1 with
  | none =>
    cases p2 with
    | none => rw [chOf] at hc; cases hc
    | some y =>
      rw [chOf] at hc
      obtain rfl := List.mem_singleton.1 hc
      exact .inl ⟨rfl, rfl, hm.2 y rfl⟩
  | some x =>
    cases p2 with
    | none =>
      rw [chOf] at hc
      obtain rfl := List.mem_singleton.1 hc
      exact .inr (.inl ⟨rfl, hm.1 x rfl, rfl⟩)
    | some y =>
      rw [chOf] at hc
      split at hc
      · cases hc
      · rename_i hne
        obtain rfl := List.mem_singleton.1 hc
        exact .inr (.inr ⟨rfl, hm.1 x rfl, hm.2 y rfl, hne⟩)
/-- One change that is none of a dump's. -/
theorem apply_one_no (a L : List Ln) (c : Ch)
    (h : (c.kind = 1 → c.old = Ln.zero → c.new.right = false) ∧ (c.kind = 2 → c.old.right = true → c.new ≠ Ln.zero) ∧ (c.kind = 3 → c.old.right = true → c.old = c.new)) : applyB a [c] L = false := by
  cases hb : applyB a [c] L with
  | false => rfl
  | true =>
    exfalso
    unfold applyB at hb
    simp only [Bool.and_eq_true, beq_iff_eq] at hb
    obtain ⟨⟨ha, hL⟩, hd⟩ := hb
    have hm := diffL_mem a L c (by rw [hd]; simp)
    rcases hm with ⟨k, o, m⟩ | ⟨k, o, m⟩ | ⟨k, o, m, e⟩
    · have h1 := h.1 k o
      have h2 := ordered_right hL m
      rw [h1] at h2; cases h2
    · exact h.2.1 k (ordered_right ha o) m
    · exact e (h.2.2 k (ordered_right ha o))
theorem apply_unordered (a L : List Ln) (l : List Ch) (h : orderedL a = false) : applyB a l L = false := by unfold applyB; rw [h]; rfl
/-- The changes from one dump to another one lead there. -/
theorem apply_diff (a b L : List Ln) (ha : orderedL a = true) (hb : orderedL b = true) (hp : (foldA a (diffL a b)).Perm L) (hs : L.Pairwise fun x y => x.cmp y ≤ 0) : L = b ∧ applyB a (diffL a b) L = true := by
  have sa := srt_of_ordered a ha
  have sb := srt_of_ordered b hb
  have hf := fold_diff (a.length + b.length) a b [] (Nat.le_refl _) sa sb (fun x hx => by cases hx) (fun x hx => by cases hx)
  rw [List.nil_append, List.nil_append] at hf
  have hL : L = b := sorted_perm L b hs sb (hp.symm.trans hf)
  refine ⟨hL, ?_⟩
  unfold applyB
  rw [hL, ha, hb]
  simp
end Go.Ab
namespace Go.Ab
open Go.RowKit Go.Proofs.YteciigbonaecoaaGreatDoor
/-- The cells of some lines, or of some changes, one behind the other. -/
def lnBlk (l : List Ln) : Array Value := (l.flatMap Ln.cells).toArray
def chBlk (l : List Ch) : Array Value := (l.flatMap Ch.cells).toArray
section
variable {P : Program} {ops : Array Oper} {rest : List Oper} {o : Oper} {a : Act} {w : World} {K : Act → World → Prop} {Q : Exit → Act → World → Prop}
theorem wp_sliceRun (t : TypeId) (n : Nat) (parts : Array (Nat × Operand)) (ho : o.op = .buildSlice t n parts) (ps : Array (Nat × Value)) (hp : (parts.map fun (i, x) => (i, a.eval x)) = ps) (v : Value) (w' : World)
    (hr : (Instr.buildSlice t n ps).run P w = .ok v w') (h : K (a.put o.dst v) w') : o.wp P a w K Q := by
  subst hp
  unfold Oper.wp execOp
  simp only [ho, Sem.run_bind, hr, Result.andThen_ok]
  exact h
theorem wp_buildRun (t : TypeId) (parts : Array (Nat × Operand)) (ho : o.op = .build t parts) (ps : Array (Nat × Value)) (hp : (parts.map fun (i, x) => (i, a.eval x)) = ps) (v : Value) (w' : World)
    (hr : (Instr.build t ps).run P w = .ok v w') (h : K (a.put o.dst v) w') : o.wp P a w K Q := by
  subst hp
  unfold Oper.wp execOp
  simp only [ho, Sem.run_bind, hr, Result.andThen_ok]
  exact h
theorem wpList_sliceRun (hg : o.guard = none) (t : TypeId) (n : Nat) (parts : Array (Nat × Operand)) (ho : o.op = .buildSlice t n parts) (ps : Array (Nat × Value)) (hp : (parts.map fun (i, x) => (i, a.eval x)) = ps) (v : Value) (w' : World)
    (hr : (Instr.buildSlice t n ps).run P w = .ok v w') (h : wpList P ops Q rest (a.put o.dst v) w') : wpList P ops Q (o :: rest) a w :=
  wpList_plain hg fun _ hK => wp_sliceRun t n parts ho ps hp v w' hr (hK _ _ h)
theorem wpList_buildRun (hg : o.guard = none) (t : TypeId) (parts : Array (Nat × Operand)) (ho : o.op = .build t parts) (ps : Array (Nat × Value)) (hp : (parts.map fun (i, x) => (i, a.eval x)) = ps) (v : Value) (w' : World)
    (hr : (Instr.build t ps).run P w = .ok v w') (h : wpList P ops Q rest (a.put o.dst v) w') : wpList P ops Q (o :: rest) a w :=
  wpList_plain hg fun _ hK => wp_buildRun t parts ho ps hp v w' hr (hK _ _ h)
theorem wpList_sliceRunG (t : TypeId) (n : Nat) (parts : Array (Nat × Operand)) (ho : o.op = .buildSlice t n parts) (hw : Region.wanted o (yielded ops a.tmps) = true) (ps : Array (Nat × Value)) (hp : (parts.map fun (i, x) => (i, a.eval x)) = ps) (v : Value) (w' : World)
    (hr : (Instr.buildSlice t n ps).run P w = .ok v w') (h : wpList P ops Q rest (a.put o.dst v) w') : wpList P ops Q (o :: rest) a w :=
  wpList_step fun _ hK => by rw [if_pos hw]; exact wp_sliceRun t n parts ho ps hp v w' hr (hK _ _ h)
end
end Go.Ab
namespace Go.Proofs.YteciigbonaecoaaGreatDoor
open Go.RowKit Go.Ab
theorem build_new (k : Int) (y : Ln) (w : World) : (Instr.build 71 #[(0, .int .u8 k), (2, .agg y.cells.toArray)]).run Tryz.prog w = .ok (.agg (Ch.mk k Ln.zero y).cells.toArray) w := by kernel_rfl
theorem build_old (k : Int) (y : Ln) (w : World) : (Instr.build 71 #[(0, .int .u8 k), (1, .agg y.cells.toArray)]).run Tryz.prog w = .ok (.agg (Ch.mk k y Ln.zero).cells.toArray) w := by kernel_rfl
theorem build_both (k : Int) (x y : Ln) (w : World) : (Instr.build 71 #[(0, .int .u8 k), (1, .agg x.cells.toArray), (2, .agg y.cells.toArray)]).run Tryz.prog w = .ok (.agg (Ch.mk k x y).cells.toArray) w := by kernel_rfl
theorem slice_line (y : Ln) (w : World) : (Instr.buildSlice 22 1 #[(0, .agg y.cells.toArray)]).run Tryz.prog w = .ok (.slice (some ⟨w.heap.size, 0, none⟩) 1 1) (w.alloc (.cells (lnBlk [y]) 44)) := by kernel_rfl
theorem slice_change (c : Ch) (w : World) : (Instr.buildSlice 61 1 #[(0, .agg c.cells.toArray)]).run Tryz.prog w = .ok (.slice (some ⟨w.heap.size, 0, none⟩) 1 1) (w.alloc (.cells (chBlk [c]) 71)) := by kernel_rfl
theorem slice_seven (c0 c1 c2 c3 c4 c5 c6 : Ch) (w : World) : (Instr.buildSlice 61 7 #[(0, .agg c0.cells.toArray), (1, .agg c1.cells.toArray), (2, .agg c2.cells.toArray), (3, .agg c3.cells.toArray), (4, .agg c4.cells.toArray), (5, .agg c5.cells.toArray), (6, .agg c6.cells.toArray)]).run Tryz.prog w = .ok (.slice (some ⟨w.heap.size, 0, none⟩) 7 7) (w.alloc (.cells (chBlk [c0, c1, c2, c3, c4, c5, c6]) 71)) := by kernel_rfl
theorem wpList_load_midG {P : Program} {ops : Array Oper} {rest : List Oper} {o : Oper} {a : Act} {w : World} {Q : Exit → Act → World → Prop} (ty : TypeId) (x : Operand) (ho : o.op = .load ty x) (b k : Nat) (hx : a.eval x = .pointer (some ⟨b, k, none⟩)) (hw : Region.wanted o (yielded ops a.tmps) = true) (cs : List Value) (d : TypeDesc) (hc : w.rangeAt b k cs)
    (hu : P.underlying ty = some d) (hd : d.isRow = true) (hi : (P.info? ty).map (·.size) = some cs.length) (h : wpList P ops Q rest (a.put o.dst (.agg cs.toArray)) w) : wpList P ops Q (o :: rest) a w :=
  wpList_step fun K hK => by rw [if_pos hw]; exact wp_load_mid ty x ho b k hx cs d hc hu hd hi (hK _ _ h)
theorem infoWord : (Tryz.prog.info? 77).map (·.size) = some 9 := by kernel_rfl
theorem infoArr31 : (Tryz.prog.info? 89).map (·.size) = some 31 := by kernel_rfl
end Go.Proofs.YteciigbonaecoaaGreatDoor
namespace Go.Ab
open Go.RowKit Go.Proofs.YteciigbonaecoaaGreatDoor
/-- A row of lines that stays, whatever is stored into block p. -/
def Away (p : Nat) (w : World) (v : Value) (l : List Ln) : Prop :=
  LnRow w v l ∧ (∀ o u, LnRow (w.setCell ⟨p, o, none⟩ u) v l) ∧ ∀ o u o2 u2, LnRow ((w.setCell ⟨p, o, none⟩ u).setCell ⟨p, o2, none⟩ u2) v l
theorem Away.of_owns {w : World} {base p : Nat} {t : TypeId} {v : Value} {l : List Ln} (h : w.ownsRow base t 11 v l.length (l.flatMap Ln.cells)) (hp : p < base) : Away p w v l :=
  ⟨RowOf.of_owns Ln.cells_length h, fun _ _ => RowOf.of_owns Ln.cells_length (owns_setBlock h hp _), fun _ _ _ _ => RowOf.of_owns Ln.cells_length (owns_setBlock (owns_setBlock h hp _) hp _)⟩
theorem Away.of_up {w V : World} {p : Nat} {v : Value} {l : List Ln} (h : LnRow V v l) (hu : Up V w) (hp : V.heap.size ≤ p) : Away p w v l :=
  ⟨RowOf.up h hu, fun _ _ => RowOf.up h (hu.setCell hp _), fun _ _ _ _ => RowOf.up h ((hu.setCell hp _).setCell hp _)⟩
def icA (c : List Int) : Array Value := (c.map (Value.int .i64)).toArray
theorem icA_size (c : List Int) : (icA c).size = c.length := by simp [icA]
theorem icA_set (c : List Int) (i : Nat) (n : Int) : (icA c).setIfInBounds i (.int .i64 n) = icA (c.set i n) := by simp [icA, List.map_set]
theorem counts_neg {k : Nat} {m : Int} (hk : k < 31) (hm : m < 0) : ((zeroC.set k m).all fun n => decide (0 ≤ n)) = false := by
  rw [List.all_eq_false]
  exact ⟨m, List.mem_iff_getElem?.2 ⟨k, List.getElem?_set_self (by show k < (List.replicate 31 0).length; simpa using hk)⟩, by simpa using hm⟩
theorem Ln.wrong_sd (y : Ln) (n : Int) (h : LnB y) (n0 : 0 ≤ n) (n1 : n < 256) : (Ln.mk y.pr y.s y.d y.sp y.dp (max n 2) y.cl y.rp y.ss y.dl y.sn).right = false ∧ LnB (Ln.mk y.pr y.s y.d y.sp y.dp (max n 2) y.cl y.rp y.ss y.dl y.sn) := by
  have h1 : decide (max n 2 ≤ 1) = false := decide_eq_false (by omega)
  refine ⟨by simp [Ln.right, h1], h.key, by show 0 ≤ max n 2; omega, by show max n 2 < 256; omega, h.cl0, h.cl1, h.dl0, h.dl1, h.sn0, h.sn1⟩
theorem Ln.wrong_cl (y : Ln) (n : Int) (h : LnB y) (n0 : 0 ≤ n) (n1 : n < 256) : (Ln.mk y.pr y.s y.d y.sp y.dp y.sd (max n 9) y.rp y.ss y.dl y.sn).right = false ∧ LnB (Ln.mk y.pr y.s y.d y.sp y.dp y.sd (max n 9) y.rp y.ss y.dl y.sn) := by
  have h1 : decide (max n 9 < 9) = false := decide_eq_false (by omega)
  refine ⟨by simp [Ln.right, h1], h.key, h.sd0, h.sd1, by show 0 ≤ max n 9; omega, by show max n 9 < 256; omega, h.dl0, h.dl1, h.sn0, h.sn1⟩
theorem Ln.wrong_ss (y : Ln) (h : LnB y) : (Ln.mk y.pr y.s y.d y.sp y.dp y.sd y.cl false true y.dl y.sn).right = false ∧ LnB (Ln.mk y.pr y.s y.d y.sp y.dp y.sd y.cl false true y.dl y.sn) := by
  refine ⟨by simp [Ln.right], h.key, h.sd0, h.sd1, h.cl0, h.cl1, h.dl0, h.dl1, h.sn0, h.sn1⟩
theorem Ln.wrong_dl (y : Ln) (x : Int) (h : LnB y) (x0 : -9223372036854775808 ≤ x) (x1 : x ≤ 9223372036854775807) : (Ln.mk y.pr y.s y.d y.sp y.dp y.sd y.cl y.rp y.ss (min x (-1)) y.sn).right = false ∧ LnB (Ln.mk y.pr y.s y.d y.sp y.dp y.sd y.cl y.rp y.ss (min x (-1)) y.sn) := by
  have h1 : decide (0 ≤ min x (-1)) = false := decide_eq_false (by omega)
  refine ⟨by simp [Ln.right, h1], h.key, h.sd0, h.sd1, h.cl0, h.cl1, by show _ ≤ min x (-1); omega, by show min x (-1) ≤ _; omega, h.sn0, h.sn1⟩
theorem Ln.wrong_sn (y : Ln) (x : Int) (h : LnB y) (x0 : -9223372036854775808 ≤ x) (x1 : x ≤ 9223372036854775807) : (Ln.mk y.pr y.s y.d y.sp y.dp y.sd y.cl y.rp y.ss y.dl (min x (-1))).right = false ∧ LnB (Ln.mk y.pr y.s y.d y.sp y.dp y.sd y.cl y.rp y.ss y.dl (min x (-1))) := by
  have h1 : decide (0 ≤ min x (-1)) = false := decide_eq_false (by omega)
  refine ⟨by simp [Ln.right, h1], h.key, h.sd0, h.sd1, h.cl0, h.cl1, h.dl0, h.dl1, by show _ ≤ min x (-1); omega, by show min x (-1) ≤ _; omega⟩
theorem ordered_one {b : Ln} (h : b.right = false) : orderedL [b] = false := ordered_no (k := 0) (by simp) (ext_right_false rfl h)
/-- What no one change may be. -/
def NoCh (c : Ch) : Prop := ((c.kind = 1 → c.old = Ln.zero → c.new.right = false) ∧ (c.kind = 2 → c.old.right = true → c.new ≠ Ln.zero) ∧ (c.kind = 3 → c.old.right = true → c.old = c.new)) ∧ LnB c.new
theorem LnB.zero : LnB Ln.zero := by constructor <;> first | (constructor <;> decide) | decide
theorem seven_no (b y : Ln) (n : Int) (hb : b.right = false) (hbb : LnB b) (hyb : LnB y) (hyd : y.d ≠ 0) : ∀ c ∈ [Ch.mk 1 Ln.zero b, Ch.mk 0 Ln.zero y, Ch.mk (max n 4) y y, Ch.mk 3 y y, Ch.mk 2 b Ln.zero, Ch.mk 1 y y, Ch.mk 2 y y], NoCh c := by
  have hyz : y ≠ Ln.zero := fun e => hyd (by rw [e]; rfl)
  intro c hc
  simp only [List.mem_cons, List.not_mem_nil, or_false] at hc
  rcases hc with rfl | rfl | rfl | rfl | rfl | rfl | rfl
  · exact ⟨⟨fun _ _ => hb, fun h => absurd h (by show (1 : Int) ≠ 2; decide), fun h => absurd h (by show (1 : Int) ≠ 3; decide)⟩, hbb⟩
  · exact ⟨⟨fun h => absurd h (by show (0 : Int) ≠ 1; decide), fun h => absurd h (by show (0 : Int) ≠ 2; decide), fun h => absurd h (by show (0 : Int) ≠ 3; decide)⟩, hyb⟩
  · exact ⟨⟨fun h => absurd h (by show max n 4 ≠ 1; omega), fun h => absurd h (by show max n 4 ≠ 2; omega), fun h => absurd h (by show max n 4 ≠ 3; omega)⟩, hyb⟩
  · exact ⟨⟨fun h => absurd h (by show (3 : Int) ≠ 1; decide), fun h => absurd h (by show (3 : Int) ≠ 2; decide), fun _ _ => rfl⟩, hyb⟩
  · exact ⟨⟨fun h => absurd h (by show (2 : Int) ≠ 1; decide), fun _ h => absurd h (by show ¬ b.right = true; simp [hb]), fun h => absurd h (by show (2 : Int) ≠ 3; decide)⟩, LnB.zero⟩
  · exact ⟨⟨fun _ h => absurd h hyz, fun h => absurd h (by show (1 : Int) ≠ 2; decide), fun h => absurd h (by show (1 : Int) ≠ 3; decide)⟩, hyb⟩
  · exact ⟨⟨fun h => absurd h (by show (2 : Int) ≠ 1; decide), fun _ _ => hyz, fun h => absurd h (by show (2 : Int) ≠ 3; decide)⟩, hyb⟩
end Go.Ab
namespace Go.Ab
open Go.RowKit Go.Proofs.YteciigbonaecoaaGreatDoor
theorem LnAt.range {w : World} {p : Nat} {l : Ln} (h : LnAt w p l) : w.rangeAt p 0 l.cells := by
  obtain ⟨c0, c1, c2, c3, c4, c5, c6, c7, c8, c9, c10⟩ := h
  intro j v hj
  rw [Nat.zero_add]
  have hj2 : j < 11 := (List.getElem?_eq_some_iff.1 hj).1
  rcases (by omega : j = 0 ∨ j = 1 ∨ j = 2 ∨ j = 3 ∨ j = 4 ∨ j = 5 ∨ j = 6 ∨ j = 7 ∨ j = 8 ∨ j = 9 ∨ j = 10) with rfl | rfl | rfl | rfl | rfl | rfl | rfl | rfl | rfl | rfl | rfl
  · exact Option.some.inj hj ▸ c0
  · exact Option.some.inj hj ▸ c1
  · exact Option.some.inj hj ▸ c2
  · exact Option.some.inj hj ▸ c3
  · exact Option.some.inj hj ▸ c4
  · exact Option.some.inj hj ▸ c5
  · exact Option.some.inj hj ▸ c6
  · exact Option.some.inj hj ▸ c7
  · exact Option.some.inj hj ▸ c8
  · exact Option.some.inj hj ▸ c9
  · exact Option.some.inj hj ▸ c10
theorem UpI.row {w W : World} {n : Nat} {cs : Array Value} {t : TypeId} [h : UpI w W] (hn : W.heap.size = n) (c2 : Array Value) : Up w ((W.alloc (.cells cs t)).setRow n c2) := up_setRowG (h.up.alloc _) (by have := h.up.size; omega) _
theorem row_own11 {w W : World} {base B : Nat} {t : TypeId} {v : Value} {n : Nat} {xs : List Value} (h : w.ownsRow base t 11 v n xs) (hu : Up w W) (hB : B < base) (v0 v1 v2 v3 v4 v5 v6 v7 v8 v9 v10 : Value) : (((((((((((W.setCell ⟨B, 0, none⟩ v0).setCell ⟨B, 1, none⟩ v1).setCell ⟨B, 2, none⟩ v2).setCell ⟨B, 3, none⟩ v3).setCell ⟨B, 4, none⟩ v4).setCell ⟨B, 5, none⟩ v5).setCell ⟨B, 6, none⟩ v6).setCell ⟨B, 7, none⟩ v7).setCell ⟨B, 8, none⟩ v8).setCell ⟨B, 9, none⟩ v9).setCell ⟨B, 10, none⟩ v10).ownsRow base t 11 v n xs :=
  owns_setBlock (owns_setBlock (owns_setBlock (owns_setBlock (owns_setBlock (owns_setBlock (owns_setBlock (owns_setBlock (owns_setBlock (owns_setBlock (owns_setBlock (owns_up h hu) hB _) hB _) hB _) hB _) hB _) hB _) hB _) hB _) hB _) hB _) hB _
end Go.Ab
