/- Package span: the pieces of two sets: the iterator. -/
import Derived.Test.YtgfkcbflnkpogaaGreatDoorSp4
import Derived.Test.YtgfkcbflnkpogaaGreatDoorCover
set_option linter.unusedSimpArgs false
set_option linter.unusedVariables false
namespace Go.Ab
open Go.RowKit
def SpRowN (n0 : Nat) (W : World) (v : Value) (s : List Sp) : Prop :=
  ∃ p cap, v = .slice p s.length cap ∧ s.length ≤ cap ∧ ∀ k x, s[k]? = some x → ∃ b o, p = some ⟨b, o, none⟩ ∧ b < n0 ∧ W.cell? ⟨b, o + k * 2, none⟩ = some (.int .u32 x.1) ∧ W.cell? ⟨b, o + k * 2 + 1, none⟩ = some (.int .u32 x.2)
theorem SpRowN.of_row {w : World} {v : Value} {s : List Sp} (h : SpRow w v s) : SpRowN w.heap.size w v s := by
  obtain ⟨p, cap, hv, hle, hc⟩ := id h
  exact ⟨p, cap, hv, hle, fun k x hx => sp_at h hv hx⟩
theorem SpRowN.kept {n0 : Nat} {W W' : World} {v : Value} {s : List Sp} {kp : Nat → Prop} (h : SpRowN n0 W v s) (k : Kept kp W W') (hk : ∀ b, b < n0 → kp b) : SpRowN n0 W' v s := by
  obtain ⟨p, cap, hv, hle, hc⟩ := h
  refine ⟨p, cap, hv, hle, fun i x hx => ?_⟩
  obtain ⟨b, o, h1, h2, h3, h4⟩ := hc i x hx
  exact ⟨b, o, h1, h2, k.cell h3 (hk b h2), k.cell h4 (hk b h2)⟩
/-- The spans that lie ahead of a number have been passed. -/
structure Skip (s : List Sp) (m : Int) (i : Nat) : Prop where
  le : i ≤ s.length
  lt : ∀ (j : Nat) x, j < i → s[j]? = some x → x.2 < m
theorem Skip.zero (s : List Sp) (m : Int) : Skip s m 0 := ⟨Nat.zero_le _, fun j x h => absurd h (Nat.not_lt_zero j)⟩
theorem Skip.mono {s : List Sp} {m m' : Int} {i : Nat} (h : Skip s m i) (k : m ≤ m') : Skip s m' i := ⟨h.le, fun j x hj hx => by have := h.lt j x hj hx; omega⟩
theorem Skip.succ {s : List Sp} {m : Int} {i : Nat} {x : Sp} (h : Skip s m i) (hx : s[i]? = some x) (hm : x.2 < m) : Skip s m (i + 1) :=
  ⟨(List.getElem?_eq_some_iff.1 hx).1, fun j y hj hy => by
    rcases Nat.lt_or_eq_of_le (Nat.le_of_lt_succ hj) with h1 | h1
    · exact h.lt j y h1 hy
    · subst h1; rw [hx] at hy; cases hy; exact hm⟩
theorem rF_sorted : ∀ {s : List Sp} {lo : Int}, rF lo s = true → ∀ (i j : Nat) x y, i ≤ j → s[i]? = some x → s[j]? = some y → x.1 ≤ y.1
  | [], _, _, i, j, x, y, _, h, _ => by simp at h
  | z :: s, lo, hr, i, j, x, y, hij, hx, hy => by
    obtain ⟨h1, h2, h3⟩ := rF_cons.1 hr
    rcases i with _ | i
    · simp at hx; subst hx
      rcases j with _ | j
      · simp at hy; subst hy; exact Int.le_refl _
      · have := rF_low h3 y (List.mem_of_getElem? (by simpa using hy)); omega
    · rcases j with _ | j
      · omega
      · exact rF_sorted h3 i j x y (by omega) (by simpa using hx) (by simpa using hy)
theorem Skip.inside {s : List Sp} {m : Int} {i : Nat} {x : Sp} (hx : s[i]? = some x) (h : x.1 ≤ m) : ∀ n, m ≤ n → n < x.2 + 1 → hasS s n = true := fun n h1 h2 => hasS_mem (List.mem_of_getElem? hx) (by omega) (by omega)
theorem Skip.gap {s : List Sp} {m : Int} {i : Nat} {x : Sp} (hs : Skip s m i) (hr : rightS s = true) (hx : s[i]? = some x) : ∀ n, m ≤ n → n < x.1 → hasS s n = false := fun n h1 h2 => by
  rw [Bool.eq_false_iff]
  intro k
  obtain ⟨y, hy, k1, k2⟩ := hasS_iff.1 k
  obtain ⟨j, hj⟩ := List.getElem?_of_mem hy
  by_cases c : j < i
  · have := hs.lt j y c hj; omega
  · have := rF_sorted hr i j x y (by omega) hx hj; omega
theorem Skip.fin {s : List Sp} {m : Int} (hs : Skip s m s.length) : ∀ n, m ≤ n → hasS s n = false := fun n h1 => by
  rw [Bool.eq_false_iff]
  intro k
  obtain ⟨y, hy, k1, k2⟩ := hasS_iff.1 k
  obtain ⟨j, hj⟩ := List.getElem?_of_mem hy
  have := hs.lt j y (List.getElem?_eq_some_iff.1 hj).1 hj
  omega
/-- All numbers from one on, up to another one, are in a set, or none. -/
def AllS (s : List Sp) (m e : Int) (p : Bool) : Prop := ∀ n, m ≤ n → n < e → hasS s n = p
theorem AllS.mono {s : List Sp} {m e e' : Int} {p : Bool} (h : AllS s m e p) (k : e' ≤ e) : AllS s m e' p := fun n h1 h2 => h n h1 (by omega)
def encPc (x : Pc) : Array Value := #[.agg #[.int .i64 x.f, .int .i64 x.t], .agg #[.bool x.p, .bool x.q]]
theorem heap_lt {w : World} {p : Nat} {o : Obj} (h : w.heap[p]? = some o) : p < w.heap.size := (Array.getElem?_eq_some_iff.1 h).1
theorem cell_of_cells {w : World} {b : Nat} {cs : Array Value} {t : TypeId} {fz : Nat × Nat} (h : w.heap[b]? = some (.cells cs t fz)) (j : Nat) : w.cell? ⟨b, j, none⟩ = cs[j]? := by simp [World.cell?, h]
theorem free_of_cells {w : World} {b : Nat} {cs : Array Value} {t : TypeId} (h : w.heap[b]? = some (.cells cs t (0, 0))) (j : Nat) : w.frozen? ⟨b, j, none⟩ = false := by simp [World.frozen?, h]
theorem wp_letterS {P : Program} {c : Code} {a : Act} {w : World} {Q : Exit → Act → World → Prop} (R : World → Prop) (h : R w) (k : ∀ W, R W → c.wp P Q a W) : c.wp P Q a w := k w h
end Go.Ab
namespace Go.Proofs.YtgfkcbflnkpogaaGreatDoor
open Go.RowKit Go.Ab
/-- Where the iterator stands: its own blocks and the sets' rows. -/
structure PcSt (n0 SB IB NB : Nat) (va vb : Value) (a b : List Sp) (X W : World) (i j : Nat) (p q : Bool) : Prop where
  turn : X.grownBy W (some IB)
  hs : W.heap[SB]? = some (.cells #[va, vb] 162 (0, 0))
  hi : W.heap[IB]? = some (.cells #[.int .i64 (i : Int), .int .i64 (j : Int)] 134 (0, 0))
  hn : W.heap[NB]? = some (.cells #[.bool p, .bool q] 135 (0, 0))
  ra : SpRowN n0 W va a
  rb : SpRowN n0 W vb b
  d1 : n0 ≤ SB
  d2 : SB < IB
  d3 : IB < X.heap.size
  d4 : X.heap.size ≤ NB
theorem keptLow (n0 : Nat) (W : World) (b o : Nat) (v : Value) (h : n0 ≤ b) : Kept (fun k => k < n0) W (W.setCell ⟨b, o, none⟩ v) := (Kept.refl _ W).setCell (fun k => Nat.lt_irrefl n0 (Nat.lt_of_le_of_lt h k)) v
theorem PcSt.step {n0 SB IB NB : Nat} {va vb : Value} {a b : List Sp} {X W W' : World} {i j : Nat} {p q : Bool} (h : PcSt n0 SB IB NB va vb a b X W i j p q) (u : Up W W') : PcSt n0 SB IB NB va vb a b X W' i j p q where
  turn := ⟨u.os.trans h.turn.os, u.tape.trans h.turn.tape, u.output.trans h.turn.output, Nat.le_trans h.turn.size u.size, fun k hk hne => (u.block k (Nat.lt_of_lt_of_le hk h.turn.size)).trans (h.turn.block k hk hne)⟩
  hs := (u.block SB (heap_lt h.hs)).trans h.hs
  hi := (u.block IB (heap_lt h.hi)).trans h.hi
  hn := (u.block NB (heap_lt h.hn)).trans h.hn
  ra := h.ra.kept ((Kept.refl (fun k => k < n0) W).up u) (fun _ h => h)
  rb := h.rb.kept ((Kept.refl (fun k => k < n0) W).up u) (fun _ h => h)
  d1 := h.d1
  d2 := h.d2
  d3 := h.d3
  d4 := h.d4
theorem PcSt.setI {n0 SB IB NB : Nat} {va vb : Value} {a b : List Sp} {X W : World} {i j : Nat} {p q : Bool} (h : PcSt n0 SB IB NB va vb a b X W i j p q) (i' : Nat) : PcSt n0 SB IB NB va vb a b X (W.setCell ⟨IB, 0, none⟩ (.int .i64 (i' : Int))) i' j p q where
  turn := ⟨h.turn.os, h.turn.tape, h.turn.output, by simpa using h.turn.size, fun k hk hne => (heap_setCell_other W ⟨IB, 0, none⟩ k _ (fun e => hne (by rw [e]))).trans (h.turn.block k hk hne)⟩
  hs := (heap_setCell_other W ⟨IB, 0, none⟩ SB _ (by have := h.d2; simp; omega)).trans h.hs
  hi := by rw [heap_setCell_same W IB 0 _ _ _ h.hi]; rfl
  hn := (heap_setCell_other W ⟨IB, 0, none⟩ NB _ (by have := h.d3; have := h.d4; simp; omega)).trans h.hn
  ra := h.ra.kept (keptLow n0 W IB 0 _ (by have := h.d1; have := h.d2; omega)) (fun _ h => h)
  rb := h.rb.kept (keptLow n0 W IB 0 _ (by have := h.d1; have := h.d2; omega)) (fun _ h => h)
  d1 := h.d1
  d2 := h.d2
  d3 := h.d3
  d4 := h.d4
theorem PcSt.setJ {n0 SB IB NB : Nat} {va vb : Value} {a b : List Sp} {X W : World} {i j : Nat} {p q : Bool} (h : PcSt n0 SB IB NB va vb a b X W i j p q) (j' : Nat) : PcSt n0 SB IB NB va vb a b X (W.setCell ⟨IB, 1, none⟩ (.int .i64 (j' : Int))) i j' p q where
  turn := ⟨h.turn.os, h.turn.tape, h.turn.output, by simpa using h.turn.size, fun k hk hne => (heap_setCell_other W ⟨IB, 1, none⟩ k _ (fun e => hne (by rw [e]))).trans (h.turn.block k hk hne)⟩
  hs := (heap_setCell_other W ⟨IB, 1, none⟩ SB _ (by have := h.d2; simp; omega)).trans h.hs
  hi := by rw [heap_setCell_same W IB 1 _ _ _ h.hi]; rfl
  hn := (heap_setCell_other W ⟨IB, 1, none⟩ NB _ (by have := h.d3; have := h.d4; simp; omega)).trans h.hn
  ra := h.ra.kept (keptLow n0 W IB 1 _ (by have := h.d1; have := h.d2; omega)) (fun _ h => h)
  rb := h.rb.kept (keptLow n0 W IB 1 _ (by have := h.d1; have := h.d2; omega)) (fun _ h => h)
  d1 := h.d1
  d2 := h.d2
  d3 := h.d3
  d4 := h.d4
theorem PcSt.setP {n0 SB IB NB : Nat} {va vb : Value} {a b : List Sp} {X W : World} {i j : Nat} {p q : Bool} (h : PcSt n0 SB IB NB va vb a b X W i j p q) (p' : Bool) : PcSt n0 SB IB NB va vb a b X (W.setCell ⟨NB, 0, none⟩ (.bool p')) i j p' q where
  turn := ⟨h.turn.os, h.turn.tape, h.turn.output, by simpa using h.turn.size, fun k hk hne => (heap_setCell_other W ⟨NB, 0, none⟩ k _ (by have := h.d4; simp; omega)).trans (h.turn.block k hk hne)⟩
  hs := (heap_setCell_other W ⟨NB, 0, none⟩ SB _ (by have := h.d2; have := h.d3; have := h.d4; simp; omega)).trans h.hs
  hi := (heap_setCell_other W ⟨NB, 0, none⟩ IB _ (by have := h.d3; have := h.d4; simp; omega)).trans h.hi
  hn := by rw [heap_setCell_same W NB 0 _ _ _ h.hn]; rfl
  ra := h.ra.kept (keptLow n0 W NB 0 _ (by have := h.d1; have := h.d2; have := h.d3; have := h.d4; omega)) (fun _ h => h)
  rb := h.rb.kept (keptLow n0 W NB 0 _ (by have := h.d1; have := h.d2; have := h.d3; have := h.d4; omega)) (fun _ h => h)
  d1 := h.d1
  d2 := h.d2
  d3 := h.d3
  d4 := h.d4
theorem PcSt.setQ {n0 SB IB NB : Nat} {va vb : Value} {a b : List Sp} {X W : World} {i j : Nat} {p q : Bool} (h : PcSt n0 SB IB NB va vb a b X W i j p q) (q' : Bool) : PcSt n0 SB IB NB va vb a b X (W.setCell ⟨NB, 1, none⟩ (.bool q')) i j p q' where
  turn := ⟨h.turn.os, h.turn.tape, h.turn.output, by simpa using h.turn.size, fun k hk hne => (heap_setCell_other W ⟨NB, 1, none⟩ k _ (by have := h.d4; simp; omega)).trans (h.turn.block k hk hne)⟩
  hs := (heap_setCell_other W ⟨NB, 1, none⟩ SB _ (by have := h.d2; have := h.d3; have := h.d4; simp; omega)).trans h.hs
  hi := (heap_setCell_other W ⟨NB, 1, none⟩ IB _ (by have := h.d3; have := h.d4; simp; omega)).trans h.hi
  hn := by rw [heap_setCell_same W NB 1 _ _ _ h.hn]; rfl
  ra := h.ra.kept (keptLow n0 W NB 1 _ (by have := h.d1; have := h.d2; have := h.d3; have := h.d4; omega)) (fun _ h => h)
  rb := h.rb.kept (keptLow n0 W NB 1 _ (by have := h.d1; have := h.d2; have := h.d3; have := h.d4; omega)) (fun _ h => h)
  d1 := h.d1
  d2 := h.d2
  d3 := h.d3
  d4 := h.d4
theorem index_s0 (pa pb : Option Addr) (La capa Lb capb : Nat) (w : World) : (Instr.index 162 (.agg #[.slice pa La capa, .slice pb Lb capb]) (.int .i64 0)).run Tryz.prog w = .ok (.slice pa La capa) w := by kernel_rfl
theorem index_s1 (pa pb : Option Addr) (La capa Lb capb : Nat) (w : World) : (Instr.index 162 (.agg #[.slice pa La capa, .slice pb Lb capb]) (.int .i64 1)).run Tryz.prog w = .ok (.slice pb Lb capb) w := by kernel_rfl
attribute [local go_sem] Oper.semAt_some
attribute [local go_sem high] wrapI64 wrapK64 index_s0 index_s1
/-- Between the two sets of a round. -/
def PcK (n0 n NB : Nat) (va vb : Value) (a b : List Sp) (m : Int) (X : World) (nx k' : Value) (w2 : World) : Prop :=
  ∃ (kk : Nat) (N : Int) (i' j' : Nat) (p q : Bool), kk ≤ 2 ∧ k' = .int .i64 (kk : Int) ∧ nx = .int .i64 N ∧ m < N ∧ N ≤ 4294967296 ∧ PcSt n0 n (n + 1) NB va vb a b X w2 i' j' p q ∧
        Hid (Skip a m i') ∧ Hid (Skip b m j') ∧ Hid (kk = 0 → p = false) ∧ Hid (kk ≤ 1 → q = false) ∧ Hid (1 ≤ kk → AllS a m N p) ∧ Hid (2 ≤ kk → AllS b m N q)
theorem SpRowN.at {n0 : Nat} {W : World} {p : Option Addr} {L cap k : Nat} {s : List Sp} {x : Sp} (h : SpRowN n0 W (.slice p L cap) s) (hx : s[k]? = some x) : ∃ b o, p = some ⟨b, o, none⟩ ∧ b < n0 ∧ W.cell? ⟨b, o + k * 2, none⟩ = some (.int .u32 x.1) ∧ W.cell? ⟨b, o + k * 2 + 1, none⟩ = some (.int .u32 x.2) := by
  obtain ⟨p', cap', hv, _, hc⟩ := h
  simp only [Value.slice.injEq] at hv
  rw [hv.1]
  exact hc k x hx
def ivAt (W : World) (b o : Nat) : Nat := match W.cell? ⟨b, o, none⟩ with | some (.int _ n) => n.toNat | _ => 0
set_option maxHeartbeats 32000000 in
set_option maxRecDepth 100000 in
theorem pieces_seq (n0 bA bB : Nat) (a b : List Sp) (va vb : Value) (ha : rightS a = true) (hb : rightS b = true) (ba : ∀ x ∈ a, SpB x) (bb : ∀ x ∈ b, SpB x) (la : a.length ≤ 1000000000) (lb : b.length ≤ 1000000000) :
    SeqUpK Tryz.prog 104 #[.pointer (some ⟨bA, 0, none⟩), .pointer (some ⟨bB, 0, none⟩)] encPc (fun xs => Tiles a b xs 4294967296) (fun pre => ∃ m, Tiles a b pre m) (fun n k => k = n + 1) (fun n k => k < n0 ∨ k = n ∨ k = n + 1)
      (fun W => W.cell? ⟨bA, 0, none⟩ = some va ∧ W.cell? ⟨bB, 0, none⟩ = some vb ∧ SpRowN n0 W va a ∧ SpRowN n0 W vb b ∧ n0 ≤ W.heap.size) := by
  intro l J Jx W hK hJ hJx hY h0
  obtain ⟨cA, cB, rA, rB, hn0⟩ := hK
  obtain ⟨pa, capa, rfl, _⟩ := id rA
  obtain ⟨pb, capb, rfl, _⟩ := id rB
  obtain ⟨La, hLa⟩ : ∃ L, a.length = L := ⟨_, rfl⟩
  obtain ⟨Lb, hLb⟩ : ∃ L, b.length = L := ⟨_, rfl⟩
  rw [hLa] at cA rA la
  rw [hLb] at cB rB lb
  have HLa := Lib.hid hLa
  have HLb := Lib.hid hLb
  haveI : LtSize bA W := ⟨cell_lt' cA⟩
  haveI : LtSize bB W := ⟨cell_lt' cB⟩
  obtain ⟨n, hn⟩ : ∃ n, W.heap.size = n := ⟨_, rfl⟩
  rw [hn] at hJ hJx hY hn0
  have HRA := Lib.hid rA; have HRB := Lib.hid rB
  have Ha := Lib.hid ha; have Hb := Lib.hid hb; have Ba := Lib.hid ba; have Bb := Lib.hid bb
  clear hLa hLb rA rB ha hb ba bb
  go_enter Tryz.func104, Tryz.ntmps104
  go_wp2_with fail
  refine wp_letterS (fun Z => J [] Z ∧ Z.heap[n]? = some (.cells #[.slice pa La capa, .slice pb Lb capb] 162 (0, 0)) ∧ Z.heap[n + 1]? = some (.cells #[.int .i64 ((0 : Nat) : Int), .int .i64 ((0 : Nat) : Int)] 134 (0, 0)) ∧ SpRowN n0 Z (.slice pa La capa) a ∧ SpRowN n0 Z (.slice pb Lb capb) b) ?hst ?_
  case hst =>
    subst hn
    refine ⟨hJ _ _ _ h0 (Turn.of_up (((Up.refl W).alloc _).alloc _)), ?_, ?_, HRA.out.kept ((Kept.refl (fun k => k < n0) W).up (((Up.refl W).alloc _).alloc _)) (fun _ h => h), HRB.out.kept ((Kept.refl (fun k => k < n0) W).up (((Up.refl W).alloc _).alloc _)) (fun _ h => h)⟩
    · rw [Below.heap_alloc _ _ _ (by simp)]; exact alloc_at W _
    · have := alloc_at (W.alloc (.cells #[.slice pa La capa, .slice pb Lb capb] 162)) (.cells #[.int .i64 0, .int .i64 0] 134)
      rwa [World.size_alloc] at this
  rintro Z ⟨hj0, hS0, hI0, ra0, rb0⟩
  clear cA cB h0 hn
  go_loopw [5] (fun at' wr => ∃ (m : Int) (pre : List Pc) (i j : Nat), at' = .int .i64 m ∧ 0 ≤ m ∧ m ≤ 4294967296 ∧ Hid (Tiles a b pre m) ∧ J pre wr ∧ Hid (Skip a m i) ∧ Hid (Skip b m j) ∧
    wr.heap[n]? = some (.cells #[.slice pa La capa, .slice pb Lb capb] 162 (0, 0)) ∧ wr.heap[n + 1]? = some (.cells #[.int .i64 (i : Int), .int .i64 (j : Int)] 134 (0, 0)) ∧ SpRowN n0 wr (.slice pa La capa) a ∧ SpRowN n0 wr (.slice pb Lb capb) b)
    (fun at' _ => 4294967296 - (intOf at').toNat)
  case atStart => exact ⟨0, [], 0, 0, rfl, Int.le_refl _, by omega, Lib.hid .nil, hj0, Lib.hid (Skip.zero a 0), Lib.hid (Skip.zero b 0), hS0, hI0, ra0, rb0⟩
  case round =>
    clear hj0 hS0 hI0 ra0 rb0
    obtain ⟨m, pre, i, j, rfl, m0, m1, HT, hj, HA, HB, hS, hI, ra, rb⟩ := hrel
    by_cases hlt : m < 4294967296
    · haveI : LtSize n wr := ⟨heap_lt hS⟩
      haveI : LtSize (n + 1) wr := ⟨heap_lt hI⟩
      have Hj := Lib.hid hj
      obtain ⟨NB, hNB⟩ : ∃ NB, wr.heap.size = NB := ⟨_, rfl⟩
      have cS0 : wr.cell? ⟨n, 0, none⟩ = some (.slice pa La capa) := by simp [cell_of_cells hS]
      have cS1 : wr.cell? ⟨n, 1, none⟩ = some (.slice pb Lb capb) := by simp [cell_of_cells hS]
      go_wp2_with fail
      refine wp_letterS (fun Z => PcSt n0 n (n + 1) NB (.slice pa La capa) (.slice pb Lb capb) a b wr Z i j false false) ?hst ?_
      case hst =>
        subst hNB
        have u : Up wr (wr.alloc (.cells #[.bool false, .bool false] 135)) := (Up.refl wr).alloc _
        exact ⟨⟨u.os, u.tape, u.output, u.size, fun k hk _ => u.block k hk⟩, (u.block n (heap_lt hS)).trans hS, (u.block (n + 1) (heap_lt hI)).trans hI, alloc_at wr _, ra.kept ((Kept.refl (fun k => k < n0) wr).up u) (fun _ h => h), rb.kept ((Kept.refl (fun k => k < n0) wr).up u) (fun _ h => h), hn0, by omega, heap_lt hI, Nat.le_refl _⟩
      rintro Z st
      clear hj hS hI ra rb cS0 cS1
      generalize wr = X at *
      go_loopw [7, 19] (fun nx k' w2 => PcK n0 n NB (.slice pa La capa) (.slice pb Lb capb) a b m X nx k' w2) (fun _ k' _ => 2 - (intOf k').toNat)
      case atStart => exact ⟨0, 4294967296, i, j, false, false, by omega, rfl, rfl, hlt, Int.le_refl _, st, HA, HB, Lib.hid (fun _ => rfl), Lib.hid (fun _ => rfl), Lib.hid (fun h => absurd h (by omega)), Lib.hid (fun h => absurd h (by omega))⟩
      case round =>
        clear HA HB st
        obtain ⟨kk, N, i, j, p, q, hkk, rfl, rfl, mN, N1, st, HA, HB, HP, HQ, HAll, HBll⟩ := hrel
        rcases (by omega : kk = 0 ∨ kk = 1 ∨ kk = 2) with rfl | rfl | rfl
        · obtain rfl := HP.out rfl
          clear HP HBll HAll
          go_wp2_with fail
          go_loopw [40] (fun _ w3 => ∃ i : Nat, PcSt n0 n (n + 1) NB (.slice pa La capa) (.slice pb Lb capb) a b X w3 i j false q ∧ Hid (Skip a m i)) (fun _ w3 => La - ivAt w3 (n + 1) 0)
          case atStart => exact ⟨i, st, HA⟩
          case round =>
            clear HA st
            obtain ⟨i, st, HA⟩ := hrel
            have hi := st.hi
            have hn' := st.hn
            have ci : wr.cell? ⟨n + 1, 0, none⟩ = some (.int .i64 (i : Int)) := by simp [cell_of_cells hi]
            have fi : wr.frozen? ⟨n + 1, 0, none⟩ = false := free_of_cells hi 0
            have cn : wr.cell? ⟨NB, 0, none⟩ = some (.bool false) := by simp [cell_of_cells hn']
            have fn : wr.frozen? ⟨NB, 0, none⟩ = false := free_of_cells hn' 0
            haveI : LtSize (n + 1) wr := ⟨heap_lt hi⟩
            haveI : LtSize NB wr := ⟨heap_lt hn'⟩
            have iL := HA.out.le
            rw [HLa.out] at iL
            have hmz : ivAt wr (n + 1) 0 = i := by unfold ivAt; rw [ci]; simp
            have HM := Lib.hid hmz
            clear hmz hi hn'
            by_cases hlt2 : i < La
            · obtain ⟨x, hx⟩ : ∃ x, a[i]? = some x := ⟨_, List.getElem?_eq_getElem (by rw [HLa.out]; exact hlt2)⟩
              obtain ⟨bx, ox, hp, hbx, c0, c1⟩ := SpRowN.at st.ra hx
              subst hp
              haveI : LtSize bx wr := ⟨cell_lt' c0⟩
              obtain ⟨xf0, xf1, xt0, xt1⟩ := Ba.out x (List.mem_of_getElem? hx)
              have Hx := Lib.hid hx
              have St := Lib.hid st
              have hi2 : (i : Int) < (La : Int) := by omega
              have i0 : (0 : Int) ≤ (i : Int) := by omega
              clear hx st
              by_cases hlm : x.2 < m
              · have hd : decide (x.2 < m) = true := decide_eq_true hlm
                haveI : In64 ((i : Int) + 1) := ⟨by omega⟩
                go_wp2_with fail
                go_roundw
                case rel => exact ⟨i + 1, St.out.setI (i + 1), Lib.hid (HA.out.succ Hx.out hlm)⟩
                case measure =>
                  have hi3 := (St.out.setI (i + 1)).hi
                  have : ivAt (wr.setCell ⟨n + 1, 0, none⟩ (.int .i64 ((i + 1 : Nat) : Int))) (n + 1) 0 = i + 1 := by unfold ivAt; rw [cell_of_cells hi3 0]; simp
                  have e2 : ivAt (wr.setCell ⟨n + 1, 0, none⟩ (.int .i64 ((i : Int) + 1))) (n + 1) 0 = i + 1 := this
                  rw [e2, HM.out]
                  omega
              · have hd : decide (x.2 < m) = false := decide_eq_false hlm
                have hne : ((i : Int) == (La : Int)) = false := by rw [beq_eq_false_iff_ne]; omega
                by_cases hle : x.1 ≤ m
                · have hd2 : decide (x.1 ≤ m) = true := decide_eq_true hle
                  have hAll : Hid (AllS a m (min N (x.2 + 1)) true) := Lib.hid (fun n h1 h2 => Skip.inside Hx.out hle n h1 (by omega))
                  haveI : In64 (x.2 + 1) := ⟨by omega⟩
                  go_wp2_with fail
                  go_region
                  go_wp2_with fail
                  go_roundw
                  case rel =>
                    exact ⟨1, _, i, j, true, q, by omega, rfl, rfl, by omega, by omega, ((St.out.step ((Up.refl wr).alloc _)).setP true).step ((Up.refl _).drew), HA, HB, Lib.hid (fun h => absurd h (by omega)), Lib.hid (fun _ => HQ.out (by omega)), Lib.hid (fun _ => hAll.out), Lib.hid (fun h => absurd h (by omega))⟩
                  case measure => simp [intOf]
                · have hd2 : decide (x.1 ≤ m) = false := decide_eq_false hle
                  have hAll : Hid (AllS a m (min N x.1) false) := Lib.hid (fun n h1 h2 => Skip.gap HA.out Ha.out Hx.out n h1 (by omega))
                  go_wp2_with fail
                  go_roundw
                  case rel =>
                    exact ⟨1, _, i, j, false, q, by omega, rfl, rfl, by omega, by omega, St.out.step ((Up.refl wr).alloc _), HA, HB, Lib.hid (fun h => absurd h (by omega)), Lib.hid (fun _ => HQ.out (by omega)), Lib.hid (fun _ => hAll.out), Lib.hid (fun h => absurd h (by omega))⟩
                  case measure => simp [intOf]
            · obtain rfl : i = La := by omega
              have hAll : Hid (AllS a m N false) := Lib.hid (fun n h1 h2 => Skip.fin (by rw [HLa.out]; exact HA.out) n h1)
              go_wp2_with fail
              go_roundw
              case rel =>
                exact ⟨1, _, i, j, false, q, by omega, rfl, rfl, by omega, by omega, st, HA, HB, Lib.hid (fun h => absurd h (by omega)), Lib.hid (fun _ => HQ.out (by omega)), Lib.hid (fun _ => hAll.out), Lib.hid (fun h => absurd h (by omega))⟩
              case measure => simp [intOf]
        · obtain rfl := HQ.out (Nat.le_refl _)
          have HAl := Lib.hid (HAll.out (Nat.le_refl _))
          clear HP HQ HBll HAll
          go_wp2_with fail
          go_loopw [40] (fun _ w3 => ∃ j : Nat, PcSt n0 n (n + 1) NB (.slice pa La capa) (.slice pb Lb capb) a b X w3 i j p false ∧ Hid (Skip b m j)) (fun _ w3 => Lb - ivAt w3 (n + 1) 1)
          case atStart => exact ⟨j, st, HB⟩
          case round =>
            clear HB st
            obtain ⟨j, st, HB⟩ := hrel
            have hi := st.hi
            have hn' := st.hn
            have ci : wr.cell? ⟨n + 1, 1, none⟩ = some (.int .i64 (j : Int)) := by simp [cell_of_cells hi]
            have fi : wr.frozen? ⟨n + 1, 1, none⟩ = false := free_of_cells hi 1
            have cn : wr.cell? ⟨NB, 1, none⟩ = some (.bool false) := by simp [cell_of_cells hn']
            have fn : wr.frozen? ⟨NB, 1, none⟩ = false := free_of_cells hn' 1
            haveI : LtSize (n + 1) wr := ⟨heap_lt hi⟩
            haveI : LtSize NB wr := ⟨heap_lt hn'⟩
            have iL := HB.out.le
            rw [HLb.out] at iL
            have hmz : ivAt wr (n + 1) 1 = j := by unfold ivAt; rw [ci]; simp
            have HM := Lib.hid hmz
            clear hmz hi hn'
            by_cases hlt2 : j < Lb
            · obtain ⟨x, hx⟩ : ∃ x, b[j]? = some x := ⟨_, List.getElem?_eq_getElem (by rw [HLb.out]; exact hlt2)⟩
              obtain ⟨bx, ox, hp, hbx, c0, c1⟩ := SpRowN.at st.rb hx
              subst hp
              haveI : LtSize bx wr := ⟨cell_lt' c0⟩
              obtain ⟨xf0, xf1, xt0, xt1⟩ := Bb.out x (List.mem_of_getElem? hx)
              have Hx := Lib.hid hx
              have St := Lib.hid st
              have hi2 : (j : Int) < (Lb : Int) := by omega
              have i0 : (0 : Int) ≤ (j : Int) := by omega
              clear hx st
              by_cases hlm : x.2 < m
              · have hd : decide (x.2 < m) = true := decide_eq_true hlm
                haveI : In64 ((j : Int) + 1) := ⟨by omega⟩
                go_wp2_with fail
                go_roundw
                case rel => exact ⟨j + 1, St.out.setJ (j + 1), Lib.hid (HB.out.succ Hx.out hlm)⟩
                case measure =>
                  have hi3 := (St.out.setJ (j + 1)).hi
                  have : ivAt (wr.setCell ⟨n + 1, 1, none⟩ (.int .i64 ((j + 1 : Nat) : Int))) (n + 1) 1 = j + 1 := by unfold ivAt; rw [cell_of_cells hi3 1]; simp
                  have e2 : ivAt (wr.setCell ⟨n + 1, 1, none⟩ (.int .i64 ((j : Int) + 1))) (n + 1) 1 = j + 1 := this
                  rw [e2, HM.out]
                  omega
              · have hd : decide (x.2 < m) = false := decide_eq_false hlm
                have hne : ((j : Int) == (Lb : Int)) = false := by rw [beq_eq_false_iff_ne]; omega
                by_cases hle : x.1 ≤ m
                · have hd2 : decide (x.1 ≤ m) = true := decide_eq_true hle
                  have hAll : Hid (AllS b m (min N (x.2 + 1)) true) := Lib.hid (fun n h1 h2 => Skip.inside Hx.out hle n h1 (by omega))
                  haveI : In64 (x.2 + 1) := ⟨by omega⟩
                  go_wp2_with fail
                  go_region
                  go_wp2_with fail
                  go_roundw
                  case rel =>
                    exact ⟨2, _, i, j, p, true, by omega, rfl, rfl, by omega, by omega, ((St.out.step ((Up.refl wr).alloc _)).setQ true).step ((Up.refl _).drew), HA, HB, Lib.hid (fun h => absurd h (by omega)), Lib.hid (fun h => absurd h (by omega)), Lib.hid (fun _ => HAl.out.mono (by omega)), Lib.hid (fun _ => hAll.out)⟩
                  case measure => simp [intOf]
                · have hd2 : decide (x.1 ≤ m) = false := decide_eq_false hle
                  have hAll : Hid (AllS b m (min N x.1) false) := Lib.hid (fun n h1 h2 => Skip.gap HB.out Hb.out Hx.out n h1 (by omega))
                  go_wp2_with fail
                  go_roundw
                  case rel =>
                    exact ⟨2, _, i, j, p, false, by omega, rfl, rfl, by omega, by omega, St.out.step ((Up.refl wr).alloc _), HA, HB, Lib.hid (fun h => absurd h (by omega)), Lib.hid (fun h => absurd h (by omega)), Lib.hid (fun _ => HAl.out.mono (by omega)), Lib.hid (fun _ => hAll.out)⟩
                  case measure => simp [intOf]
            · obtain rfl : j = Lb := by omega
              have hAll : Hid (AllS b m N false) := Lib.hid (fun n h1 h2 => Skip.fin (by rw [HLb.out]; exact HB.out) n h1)
              go_wp2_with fail
              go_roundw
              case rel =>
                exact ⟨2, _, i, j, p, false, by omega, rfl, rfl, by omega, by omega, st, HA, HB, Lib.hid (fun h => absurd h (by omega)), Lib.hid (fun h => absurd h (by omega)), Lib.hid (fun _ => HAl.out.mono (by omega)), Lib.hid (fun _ => hAll.out)⟩
              case measure => simp [intOf]
        · have HAl := Lib.hid (HAll.out (by omega))
          have HBl := Lib.hid (HBll.out (Nat.le_refl _))
          have hn' := st.hn
          have cn0 : wr.cell? ⟨NB, 0, none⟩ = some (.bool p) := by simp [cell_of_cells hn']
          have cn1 : wr.cell? ⟨NB, 1, none⟩ = some (.bool q) := by simp [cell_of_cells hn']
          haveI : LtSize NB wr := ⟨heap_lt hn'⟩
          haveI : In64 (N - 1) := ⟨by omega⟩
          have HT2 := Lib.hid (Tiles.snoc HT.out (show m ≤ N - 1 by omega) (by omega) (fun x h1 h2 => ⟨HAl.out x h1 (by omega), HBl.out x h1 (by omega)⟩))
          obtain ⟨fn, tmps, assign, body, hy, hR⟩ := hY pre ⟨m, N - 1, p, q⟩ wr (hJ _ _ _ Hj.out ⟨some (n + 1), st.turn, fun r e => by cases e; rfl⟩) ⟨_, HT2.out⟩
          change (Instr.yield l #[.agg #[.int .i64 m, .int .i64 (N - 1)], .agg #[.bool p, .bool q]]).run Tryz.prog wr = _ at hy
          have Hy := Lib.hid hy
          have HR := Lib.hid hR
          have St := Lib.hid st
          have HS := Lib.hid st.hs
          have HI := Lib.hid st.hi
          clear HP HQ HBll HAll hR hY hn' st HT Hj
          refine (wpIn_wide (n := 0)).1 ?_
          gi_wp2_with fail
          refine (wpIn_wide (n := 0)).1 ?_
          gi_wp2_with fail
          all_goals
            refine ⟨rfl, HR.out.mono ?_⟩
            rintro e' W' (⟨rfl, hJ', hk⟩ | ⟨rfl, hJx'⟩)
            · have HS' := Lib.hid ((hk.2 n (.inr (.inl rfl)) (heap_lt HS.out)).trans HS.out)
              have HI' := Lib.hid ((hk.2 (n + 1) (.inr (.inr rfl)) (heap_lt HI.out)).trans HI.out)
              have Ra' := Lib.hid (St.out.ra.kept hk (fun _ h => .inl h))
              have Rb' := Lib.hid (St.out.rb.kept hk (fun _ h => .inl h))
              have HJ' := Lib.hid hJ'
              have HT3 : Hid (Tiles a b (pre ++ [⟨m, N - 1, p, q⟩]) N) := by have := HT2.out; rwa [show N - 1 + 1 = N by omega] at this
              clear hk hJ' HS HI St
              gi_wp2_with fail
              go_wp2_with fail
              refine ⟨⟨N, pre ++ [⟨m, N - 1, p, q⟩], i, j, rfl, by omega, N1, HT3, HJ'.out, Lib.hid (HA.out.mono (Int.le_of_lt mN)), Lib.hid (HB.out.mono (Int.le_of_lt mN)), HS'.out, HI'.out, Ra'.out, Rb'.out⟩, ?_⟩
              simp [intOf]; omega
            · gi_wp2_with fail
              go_wp2_with fail
              (try simp only [Exit.inBlock, Exit.then])
              refine bodyPost_ret (results_none rfl _ _ _) rfl ?_
              exact ⟨⟨_, rfl⟩, .inr ⟨_, hJx'⟩⟩
    · obtain rfl : m = 4294967296 := by omega
      go_wp2_with fail
      go_end0
      exact ⟨⟨_, rfl⟩, .inl ⟨pre, HT.out, hj⟩⟩
end Go.Proofs.YtgfkcbflnkpogaaGreatDoor
