/- DumpSmall, walked. -/
import Derived.Test.YtlbbepgfjigjpaaGreatDoorSmO
import Derived.Deep.CutBlock
import Derived.Deep.DeepCutAuto
import Derived.ArgAppend
set_option linter.unusedSimpArgs false
set_option linter.unusedVariables false
namespace Go.Ab
open Go.RowKit Go.Proofs.YtlbbepgfjigjpaaGreatDoor
/-- A line with other numbers. -/
def Ln.setA (l : Ln) (s c d m : Int) : Ln := ⟨l.pr, l.s, l.d, l.sp, l.dp, s, c, l.rp, l.ss, d, m⟩
def Ln.setB (l : Ln) (p q : Bool) (m : Int) : Ln := ⟨l.pr, l.s, l.d, l.sp, l.dp, l.sd, l.cl, p, q, l.dl, m⟩
theorem Ln.setA_b {l : Ln} {s c d m : Int} (h : LnB l) (hs : 0 ≤ s ∧ s < 256) (hc : 0 ≤ c ∧ c < 256) (hd : -9223372036854775808 ≤ d ∧ d ≤ 9223372036854775807) (hm : -9223372036854775808 ≤ m ∧ m ≤ 9223372036854775807) : LnB (l.setA s c d m) := ⟨h.key, hs.1, hs.2, hc.1, hc.2, hd.1, hd.2, hm.1, hm.2⟩
theorem Ln.setB_b {l : Ln} {p q : Bool} {m : Int} (h : LnB l) (hm : -9223372036854775808 ≤ m ∧ m ≤ 9223372036854775807) : LnB (l.setB p q m) := ⟨h.key, h.sd0, h.sd1, h.cl0, h.cl1, h.dl0, h.dl1, hm.1, hm.2⟩
class I64 (n : Int) : Prop where
  h : -9223372036854775808 ≤ n ∧ n ≤ 9223372036854775807
theorem wrapJ64 (n : Int) [h : I64 n] : wrap64 n = n := IntWalk.wrap64_in _ h.h
theorem wrapJK64 (n : Int) [h : I64 n] : IntKind.i64.wrap n = n := IntWalk.i64_in _ h.h
/-- The lines and texts of the chapter's examples, held. -/
structure SmV (w : World) (A p q : Nat) (la lb : Ln) (sa sb : ByteArray) : Prop where
  ca : w.cell? ⟨A, 0, none⟩ = some (.slice (some ⟨p, 0, none⟩) 2 2)
  la0 : A < w.heap.size
  lp0 : p < w.heap.size
  lq0 : q < w.heap.size
  ra : w.rangeAt p 0 la.cells
  rb : w.rangeAt p 11 lb.cells
  s0 : w.cell? ⟨q, 0, none⟩ = some (.string sa)
  s1 : w.cell? ⟨q, 1, none⟩ = some (.string sb)
theorem SmV.up {w W : World} {A p q : Nat} {la lb : Ln} {sa sb : ByteArray} (h : SmV w A p q la lb sa sb) (u : Up w W) : SmV W A p q la lb sa sb where
  ca := u.cell_some' h.ca
  la0 := Nat.lt_of_lt_of_le h.la0 u.size
  lp0 := Nat.lt_of_lt_of_le h.lp0 u.size
  lq0 := Nat.lt_of_lt_of_le h.lq0 u.size
  ra := rangeUp h.ra u
  rb := rangeUp h.rb u
  s0 := u.cell_some' h.s0
  s1 := u.cell_some' h.s1
theorem lnUp {w W : World} {v : Value} {a : List Ln} (h : LnRow w v a) [u : UpI w W] : LnRow W v a := RowOf.up h u.up
theorem chUp {w W : World} {v : Value} {a : List Ch} (h : ChRow w v a) [u : UpI w W] : ChRow W v a := RowOf.up h u.up
theorem strUp {w W : World} {v : Value} {a : List (List UInt8)} (h : StrRow w v a) [u : UpI w W] : StrRow W v a := RowOf.up h u.up
theorem strNil (w : World) : StrRow w (.slice none 0 0) [] := RowOf.nil _
theorem nilSome (p : Addr) (n c : Nat) : NilOk (.slice (some p) n c) := by intro n c h; cases h
theorem chDrop {w : World} {b o n cap k : Nat} {l : List Ch} (h : ChRow w (.slice (some ⟨b, o, none⟩) n cap) l) (hn : l.length = n) (hk : k ≤ n) (hc : n - k ≤ cap - k) : ChRow w (.slice (some ⟨b, o + k * 23, none⟩) (n - k) (cap - k)) (l.drop k) := RowOf.dropM h k hn hk _ hc
theorem chAtM {w : World} {q : Option Addr} {n cap : Nat} {l : List Ch} {k : Nat} {c : Ch} (h : ChRow w (.slice q n cap) l) (hk : l[k]? = some c) : ∃ b o, q = some ⟨b, o, none⟩ ∧ b < w.heap.size ∧ n ≤ cap := by
  obtain ⟨p, c', hv, hle, hc⟩ := h
  simp only [Value.slice.injEq] at hv
  obtain ⟨rfl, rfl, rfl⟩ := hv
  obtain ⟨b, o, hp, hb, _⟩ := hc k c hk
  exact ⟨b, o, hp, hb, hle⟩
theorem ownsDown {w : World} {a b : Nat} {e : TypeId} {k : Nat} {v : Value} {n : Nat} {xs : List Value} (h : w.ownsRow a e k v n xs) (hb : b ≤ a) : w.ownsRow b e k v n xs := by
  obtain ⟨h1, h2 | ⟨g, cap, cur, hv, hg, h3⟩⟩ := h
  · exact ⟨h1, .inl h2⟩
  · exact ⟨h1, .inr ⟨g, cap, cur, hv, Nat.le_trans hb hg, h3⟩⟩
theorem owns_at {w : World} {base g N c : Nat} {t : TypeId} {k : Nat} {xs : List Value} (h : w.ownsRow base t k (.slice (some ⟨g, 0, none⟩) N c) N xs) (j : Nat) (u : Value) (hu : xs[j]? = some u) : w.cell? ⟨g, j, none⟩ = some u := by
  rcases Nat.eq_zero_or_pos N with rfl | h0
  · have := h.1; rw [Nat.zero_mul] at this; rw [List.eq_nil_of_length_eq_zero this] at hu; simp at hu
  · obtain ⟨g', c', hv, _, _, _, hc⟩ := owns_cells h h0
    cases hv; exact hc j u hu
theorem two_at {w : World} {q : Nat} {x y : List UInt8} (h0 : w.cell? ⟨q, 0, none⟩ = some (.string ⟨x.toArray⟩)) (h1 : w.cell? ⟨q, 1, none⟩ = some (.string ⟨y.toArray⟩)) (j : Nat) (u : Value) (hj : (strCells [x, y])[j]? = some u) : w.cell? (Addr.add ⟨q, 0, none⟩ j) = some u := by
  rcases (by have := (List.getElem?_eq_some_iff.1 hj).1; simp [strCells] at this; omega : j = 0 ∨ j = 1) with rfl | rfl
  · simp [strCells] at hj; subst hj; simpa [Addr.add] using h0
  · simp [strCells] at hj; subst hj; simpa [Addr.add] using h1
theorem lnRow_two {w : World} {p : Nat} {x y : Ln} (h0 : w.rangeAt p 0 x.cells) (h1 : w.rangeAt p 11 y.cells) (hp : p < w.heap.size) : LnRow w (.slice (some ⟨p, 0, none⟩) 2 2) [x, y] :=
  ⟨_, 2, rfl, Nat.le_refl _, fun i e he => ⟨p, 0, rfl, hp, fun j u hj => by
    rcases (by have := (List.getElem?_eq_some_iff.1 he).1; simp at this; omega : i = 0 ∨ i = 1) with rfl | rfl
    · simp at he; subst he; simpa using h0 j u hj
    · simp at he; subst he; simpa using h1 j u hj⟩⟩
theorem ln_lit2 (w : World) (t : TypeId) (x y : Ln) : LnRow (w.alloc (.cells ([x, y].flatMap Ln.cells).toArray t)) (.slice (some ⟨w.heap.size, 0, none⟩) 2 2) [x, y] :=
  RowOf.of_block (cells := Ln.cells) (fun x => x.cells_length) (l := [x, y]) (t := t) (fz := (0, 0)) (alloc_new rfl) (Nat.le_refl _)
theorem nilNil : NilOk (.slice none 0 0) := by intro n c h; cases h; rfl
def Ln.turn (l : Ln) : Ln := ⟨l.pr, l.d, l.s, l.dp, l.sp, l.sd, l.cl, l.rp, l.ss, l.dl, l.sn⟩
theorem Ln.turn_b {l : Ln} (h : LnB l) : LnB l.turn := ⟨⟨h.key.r0, h.key.r1, h.key.d0, h.key.d1, h.key.s0, h.key.s1, h.key.dp0, h.key.dp1, h.key.sp0, h.key.sp1⟩, h.sd0, h.sd1, h.cl0, h.cl1, h.dl0, h.dl1, h.sn0, h.sn1⟩
/-- Three keys in a row. -/
structure K15 (w : World) (b : Nat) (x y z : Ln) : Prop where
  c0 : w.cell? ⟨b, 0, none⟩ = some (.int .u8 x.pr)
  c1 : w.cell? ⟨b, 1, none⟩ = some (.int .u32 x.s)
  c2 : w.cell? ⟨b, 2, none⟩ = some (.int .u32 x.d)
  c3 : w.cell? ⟨b, 3, none⟩ = some (.int .u16 x.sp)
  c4 : w.cell? ⟨b, 4, none⟩ = some (.int .u16 x.dp)
  c5 : w.cell? ⟨b, 5, none⟩ = some (.int .u8 y.pr)
  c6 : w.cell? ⟨b, 6, none⟩ = some (.int .u32 y.s)
  c7 : w.cell? ⟨b, 7, none⟩ = some (.int .u32 y.d)
  c8 : w.cell? ⟨b, 8, none⟩ = some (.int .u16 y.sp)
  c9 : w.cell? ⟨b, 9, none⟩ = some (.int .u16 y.dp)
  c10 : w.cell? ⟨b, 10, none⟩ = some (.int .u8 z.pr)
  c11 : w.cell? ⟨b, 11, none⟩ = some (.int .u32 z.s)
  c12 : w.cell? ⟨b, 12, none⟩ = some (.int .u32 z.d)
  c13 : w.cell? ⟨b, 13, none⟩ = some (.int .u16 z.sp)
  c14 : w.cell? ⟨b, 14, none⟩ = some (.int .u16 z.dp)
theorem kcs_range {w : World} {b o : Nat} {x : Ln} (h0 : w.cell? ⟨b, o, none⟩ = some (.int .u8 x.pr)) (h1 : w.cell? ⟨b, o + 1, none⟩ = some (.int .u32 x.s)) (h2 : w.cell? ⟨b, o + 2, none⟩ = some (.int .u32 x.d)) (h3 : w.cell? ⟨b, o + 3, none⟩ = some (.int .u16 x.sp)) (h4 : w.cell? ⟨b, o + 4, none⟩ = some (.int .u16 x.dp)) : w.rangeAt b o x.kcs := by
  intro j u hj
  rcases (by have := (List.getElem?_eq_some_iff.1 hj).1; simp [Ln.kcs] at this; omega : j = 0 ∨ j = 1 ∨ j = 2 ∨ j = 3 ∨ j = 4) with rfl | rfl | rfl | rfl | rfl <;> (simp [Ln.kcs] at hj; subst hj; assumption)
theorem K15.held {w : World} {kp A b p q : Nat} {x y z la lb : Ln} {sa sb : ByteArray} (h : K15 w b x y z) (hk : w.cell? ⟨kp, 0, none⟩ = some (.slice (some ⟨b, 0, none⟩) 3 3)) (lk : kp < w.heap.size) (lb' : b < w.heap.size) (hv : SmV w A p q la lb sa sb) : SmHeld w kp A b p [x, y, z] [la, lb] where
  k := hk
  l := hv.ca
  kr := fun i e he => by
    rcases (by have := (List.getElem?_eq_some_iff.1 he).1; simp at this; omega : i = 0 ∨ i = 1 ∨ i = 2) with rfl | rfl | rfl
    · simp at he; subst he; exact kcs_range h.c0 h.c1 h.c2 h.c3 h.c4
    · simp at he; subst he; exact kcs_range h.c5 h.c6 h.c7 h.c8 h.c9
    · simp at he; subst he; exact kcs_range h.c10 h.c11 h.c12 h.c13 h.c14
  lr := fun i e he => by
    rcases (by have := (List.getElem?_eq_some_iff.1 he).1; simp at this; omega : i = 0 ∨ i = 1) with rfl | rfl
    · simp at he; subst he; exact hv.ra
    · simp at he; subst he; exact hv.rb
  kl := lk
  ll := hv.la0
  bl := lb'
  pl := hv.lp0
def exTc : List UInt8 := [49, 32, 49, 46, 50, 46, 51, 46, 52, 58, 53, 32, 54, 46, 55, 46, 56, 46, 57, 58, 53, 32, 105, 110, 115, 105, 100, 101, 32, 113, 117, 101, 114, 121, 45, 98, 111, 116, 104, 32, 114, 101, 112, 108, 105, 101, 100, 32, 97, 115, 115, 117, 114, 101, 100, 32, 100, 101, 97, 100, 108, 105, 110, 101, 32, 48, 32, 115, 101, 101, 110, 32, 57, 50, 50, 51, 51, 55, 50, 48, 51, 54, 56, 53, 52, 55, 55, 53, 56, 48, 55]
def exTd : List UInt8 := [54, 32, 49, 46, 50, 46, 51, 46, 52, 58, 53, 32, 54, 46, 55, 46, 56, 46, 57, 58, 53, 32, 105, 110, 115, 105, 100, 101, 32, 116, 99, 112, 45, 111, 112, 101, 110, 105, 110, 103, 32, 114, 101, 112, 108, 105, 101, 100, 32, 100, 101, 97, 100, 108, 105, 110, 101, 32, 48, 32, 115, 101, 101, 110, 32, 57, 50, 50, 51, 51, 55, 50, 48, 51, 54, 56, 53, 52, 55, 55, 53, 56, 48, 56]
/-- A statement that no tactic takes by itself. -/
structure KeptB (p : Prop) : Prop where
  out : p
end Go.Ab
namespace Go.Proofs.YtlbbepgfjigjpaaGreatDoor
open Go.RowKit Go.Ab
attribute [local go_sem high] wrapJ64 wrapJK64
theorem lt_of_heapC {w : World} {p : Nat} {o : Obj} (h : w.heap[p]? = some o) : p < w.heap.size := (Array.getElem?_eq_some_iff.1 h).1
/-- What the called laws say. -/
structure SmC : Prop where
  tx : ∀ (l : Ln) (s : ByteArray) (W : World), GoodD W → LnB l → Gives Tryz.prog 5 #[.agg l.cells.toArray, .string s] W (.bool true)
  ls : ∀ (a b : List Ln) (l : List (List UInt8)) (va vb vl : Value) (W : World), GoodD W → LnRow W va a → LnRow W vb b → StrRow W vl l → NilOk va → NilOk vb → NilOk vl → (∀ x ∈ a, LnB x) → (∀ x ∈ b, LnB x) → Gives Tryz.prog 9 #[va, vb, vl] W (.bool true)
  ap : ∀ (a : List Ln) (l : List Ch) (va vl : Value) (W : World), LnRow W va a → ChRow W vl l → NilOk va → NilOk vl → (∀ x ∈ a, LnB x) → (∀ c ∈ l, ChB c) → a.length ≤ 9223372036854775807 → l.length ≤ 9223372036854775807 → Gives Tryz.prog 10 #[va, vl] W (.bool true)
  co : ∀ (c : List Int) (l : List (List UInt8)) (v : Value) (W : World), GoodD W → c.length = 31 → (∀ n ∈ c, -9223372036854775808 ≤ n ∧ n ≤ 9223372036854775807) → StrRow W v l → NilOk v → Gives Tryz.prog 12 #[.agg (c.map (Value.int .i64)).toArray, v] W (.bool true)
theorem smv_of (w V : World) (p q A : Nat) (u : Up w V) (hA : V.cell? ⟨A, 0, none⟩ = some (.slice (some ⟨p, 0, none⟩) 2 2)) (aV : A < V.heap.size) (hL : LnRow V (.slice (some ⟨p, 0, none⟩) 2 2) [exA, exB]) (hS : StrRow V (.slice (some ⟨q, 0, none⟩) 2 2) [exTa, exTb]) :
    ∃ (la lb : Ln) (sa sb : ByteArray), LnB la ∧ LnB lb ∧ sa.size ≤ 300 ∧ sb.size ≤ 300 ∧ SmV V A p q la lb sa sb := by
  have h0 := LnRow.cell hL 0 exA rfl
  have h1 := LnRow.cell hL 1 exB rfl
  obtain ⟨p', c', he, _, hc⟩ := hS
  simp only [Value.slice.injEq] at he
  obtain ⟨rfl, -, rfl⟩ := he
  obtain ⟨b, o, hb, hbl, hb0⟩ := hc 0 exTa rfl
  simp only [Option.some.injEq, Addr.mk.injEq, and_true] at hb
  obtain ⟨rfl, rfl⟩ := hb
  obtain ⟨b, o, hb, _, hb1⟩ := hc 1 exTb rfl
  simp only [Option.some.injEq, Addr.mk.injEq, and_true] at hb
  obtain ⟨rfl, rfl⟩ := hb
  exact ⟨exA, exB, ⟨exTa.toArray⟩, ⟨exTb.toArray⟩, ex_bd _ (by simp), ex_bd _ (by simp), by decide, by decide, hA, aV, h0.1, hbl, fun j u hj => by simpa using h0.2 j u hj, fun j u hj => by simpa using h1.2 j u hj, by simpa using hb0 0 _ rfl, by simpa using hb1 0 _ rfl⟩
/-- What is said. -/
def SmStmt : Prop := ∀ (C : SmC) (w : World) (g : GoodD w), Gives Tryz.prog 3 #[] w (.bool true)
set_option maxHeartbeats 64000000 in
set_option maxRecDepth 100000 in
noncomputable def dsPart0 : PSigma (fun R : Prop => KeptB R → SmStmt) := by
  apply PSigma.mk
  case snd =>
    intro hR C w g
    unfold Gives
    go_enter Tryz.func3, Tryz.ntmps3
    go_upto_region 3 with (first
      | (go_at_call 4; refine (dexamples_any _).mono ?_; rintro e w' ⟨p, q, rfl, hL, hS, xe, rfl⟩))
    obtain ⟨A, hA⟩ : ∃ A, xe.w.heap.size = A := ⟨_, rfl⟩
    refine wp_letter (fun V => UpI w V ∧ ∃ (la lb : Ln) (sa sb : ByteArray), LnB la ∧ LnB lb ∧ sa.size ≤ 300 ∧ sb.size ≤ 300 ∧ SmV V A p q la lb sa sb) ⟨inferInstance, smv_of w _ p q A (upI : Up w _) (by subst hA; simp [go_sem]) (by subst hA; exact (inferInstance : LtSize _ _).lt) (hL.up upI) (hS.up upI)⟩ ?_
    subst hA
    generalize xe.w.heap.size = A
    clear hL hS
    rintro V ⟨uV, la, lb, sa, sb, ba, bb, hsa, hsb, HV⟩
    haveI := uV
    clear xe
    go_wp2_with fail
    go_loopw [0, 36] (fun r i wr => r = .bool false ∧ ∃ k : Nat, k ≤ 2 ∧ i = .int .i64 (k : Int) ∧ Up V wr) (fun _ i _ => 2 - (intOf i).toNat)
    case atStart => exact ⟨rfl, 0, Nat.zero_le _, rfl, Up.refl _⟩
    case round =>
      obtain ⟨rfl, k, hk, rfl, hu⟩ := hrel
      haveI : UpI V wr := ⟨hu⟩
      by_cases hlt : k < 2
      · have hlt' : (k : Int) < 2 := by omega
        have k0 : (0 : Int) ≤ (k : Int) := by omega
        obtain ⟨lx, hbx, hX⟩ : ∃ lx : Ln, LnB lx ∧ wr.rangeAt p (k * 11) lx.cells := by
          rcases (by omega : k = 0 ∨ k = 1) with rfl | rfl
          · exact ⟨la, ba, rangeUp HV.ra hu⟩
          · exact ⟨lb, bb, rangeUp HV.rb hu⟩
        have hcA := hu.cell_some' HV.ca
        haveI : LtSize A wr := ⟨(HV.up hu).la0⟩
        haveI : LtSize p wr := ⟨(HV.up hu).lp0⟩
        go_upto_region 5 with (first
          | ((with_reducible refine held ?_); refine H_load_mid rfl 31 _ rfl p (k * 11) rfl lx.cells _ hX Tryz.underlying31 rfl lnSize ?_)
          | ((with_reducible refine held ?_); refine H_store_row rfl 31 _ _ rfl _ lx.cells.toArray rfl rfl 31 _ (alloc_new rfl) lnSize rfl (ln_all lx) ?_))
        obtain ⟨B, hB⟩ : ∃ D, wr.heap.size = D := ⟨_, rfl⟩
        rw [hB]
        refine wp_letter (fun Z => UpI wr Z ∧ Z.heap[B]? = some (.cells lx.cells.toArray 31 (0, 0))) ⟨⟨UpI.row hB _⟩, setRow_heap _ _ _ _ _ _ (alloc_new hB)⟩ ?_
        rintro Z ⟨uZ, hZ⟩
        haveI := uZ
        haveI : UpI V Z := ⟨hu.trans uZ.up⟩
        clear hX hB hcA
        go_wp2_with fail
        go_loopw [0, 40] (fun r i wr => r = .bool false ∧ ∃ n : Nat, n ≤ 12 ∧ i = .int .i64 (n : Int) ∧ Up Z wr) (fun _ i _ => 12 - (intOf i).toNat)
        case atStart => exact ⟨rfl, 0, Nat.zero_le _, rfl, Up.refl _⟩
        case round =>
          obtain ⟨rfl, n, hn, rfl, hu2⟩ := hrel
          haveI : UpI Z wr := ⟨hu2⟩
          haveI : UpI V wr := ⟨(upI : Up V Z).trans hu2⟩
          by_cases hn2 : n < 12
          · have hn3 : (n : Int) < 12 := by omega
            have n0 : (0 : Int) ≤ (n : Int) := by omega
            go_upto_region 9 with fail
            obtain ⟨E, hE⟩ : ∃ D, wr.heap.size = D := ⟨_, rfl⟩
            rw [hE]
            refine wp_letter (fun Y => UpI Z Y ∧ LtSize E Y ∧ ∀ j : Nat, j < 5 → ∃ v : Int, Y.cell? ⟨E, j, none⟩ = some (.int .i64 v) ∧ -9223372036854775808 ≤ v ∧ v ≤ 9223372036854775807) ?hst ?_
            case hst =>
              refine ⟨inferInstance, by subst hE; infer_instance, fun j hj => ?_⟩
              subst hE
              rcases (by omega : j = 0 ∨ j = 1 ∨ j = 2 ∨ j = 3 ∨ j = 4) with rfl | rfl | rfl | rfl | rfl
              · exact ⟨_, by simp [go_sem]; rfl, by decide, by decide⟩
              · exact ⟨_, by simp [go_sem]; rfl, by decide, by decide⟩
              · exact ⟨_, by simp [go_sem]; rfl, by decide, by decide⟩
              · exact ⟨_, by simp [go_sem]; rfl, by decide, by decide⟩
              · exact ⟨_, by simp [go_sem]; rfl, by decide, by decide⟩
            clear hE
            rintro Y ⟨uY, eY, hYv⟩
            haveI := uY
            haveI := eY
            go_wp2_with fail
            go_loopw [0, 45] (fun r i wr => r = .bool false ∧ ∃ m : Nat, m ≤ 5 ∧ i = .int .i64 (m : Int) ∧ Up Y wr) (fun _ i _ => 5 - (intOf i).toNat)
            case atStart => exact ⟨rfl, 0, Nat.zero_le _, rfl, Up.refl _⟩
            case round =>
              obtain ⟨rfl, m, hm, rfl, hu3⟩ := hrel
              haveI : UpI Y wr := ⟨hu3⟩
              haveI : UpI Z wr := ⟨uY.up.trans hu3⟩
              haveI : UpI V wr := ⟨(upI : Up V Z).trans (upI : Up Z wr)⟩
              by_cases hm2 : m < 5
              · have hm3 : (m : Int) < 5 := by omega
                have m0 : (0 : Int) ≤ (m : Int) := by omega
                obtain ⟨v, hv, v0, v1⟩ := hYv m hm2
                have hv' := hu3.cell_some' hv
                have hZ' := ((upI : Up Z wr).block B (lt_of_heapC hZ)).trans hZ
                go_upto_region 12 with (first
                  | ((with_reducible refine held ?_); refine H_load_row rfl 31 _ rfl B rfl 31 lx.cells.toArray (0, 0) _ hZ' Tryz.underlying31 rfl lnSize ?_)
                  | ((with_reducible refine held ?_); refine H_store_row rfl 31 _ _ rfl _ lx.cells.toArray rfl rfl 31 _ (alloc_new rfl) lnSize rfl (ln_all lx) ?_))
                obtain ⟨D, hD⟩ : ∃ D, wr.heap.size = D := ⟨_, rfl⟩
                rw [hD]
                refine wp_letter (fun X => UpI wr X ∧ X.heap[D]? = some (.cells lx.cells.toArray 31 (0, 0))) ⟨⟨UpI.row hD _⟩, setRow_heap _ _ _ _ _ _ (alloc_new hD)⟩ ?_
                haveI : GeSize wr D := ⟨by omega⟩
                haveI : GeSize Y D := ⟨by have := hu3.size; omega⟩
                haveI : GeSize Z D := ⟨by have := (upI : Up Z wr).size; omega⟩
                clear hv' hZ' hD
                rintro X ⟨uX, hX⟩
                haveI := uX
                haveI : UpI Y X := ⟨hu3.trans uX.up⟩
                haveI : UpI Z X := ⟨(upI : Up Z wr).trans uX.up⟩
                have hy := LnAt.of_heap hX
                haveI := hy.lt
                have f5 : X.frozen? ⟨D, 5, none⟩ = false := by simp [World.frozen?, hX]
                have f6 : X.frozen? ⟨D, 6, none⟩ = false := by simp [World.frozen?, hX]
                have f9 : X.frozen? ⟨D, 9, none⟩ = false := by simp [World.frozen?, hX]
                have f10 : X.frozen? ⟨D, 10, none⟩ = false := by simp [World.frozen?, hX]
                obtain ⟨c0, c1, c2, c3, c4, c5, c6, c7, c8, c9, c10⟩ := hy
                clear hX
                go_upto_region 13 with fail
                refine wp_letter (fun U => UpI wr U ∧ LnAt U D (lx.setA ((n : Int) % 3) (n : Int) v (max v 5))) ?hst ?_
                case hst => exact ⟨inferInstance, ⟨by simp [go_sem, Ln.setA, c0], by simp [go_sem, Ln.setA, c1], by simp [go_sem, Ln.setA, c2], by simp [go_sem, Ln.setA, c3], by simp [go_sem, Ln.setA, c4], by simp [go_sem, Ln.setA, c5], by simp [go_sem, Ln.setA, c6], by simp [go_sem, Ln.setA, c7], by simp [go_sem, Ln.setA, c8], by simp [go_sem, Ln.setA, c9], by simp [go_sem, Ln.setA, c10]⟩⟩
                clear f5 f6 f9 f10 c0 c1 c2 c3 c4 c5 c6 c7 c8 c9 c10
                have hby : LnB (lx.setA ((n : Int) % 3) (n : Int) v (max v 5)) := Ln.setA_b hbx (by omega) (by omega) ⟨v0, v1⟩ (by omega)
                rintro U ⟨uU, hy⟩
                generalize lx.setA ((n : Int) % 3) (n : Int) v (max v 5) = y at hy hby
                haveI := uU
                haveI : UpI Y U := ⟨hu3.trans uU.up⟩
                haveI : UpI Z U := ⟨(upI : Up Z wr).trans uU.up⟩
                haveI : UpI V U := ⟨(upI : Up V wr).trans uU.up⟩
                haveI := hy.lt
                have hZ' := ((upI : Up Z U).block B (lt_of_heapC hZ)).trans hZ
                go_upto_region 14 with (first
                  | ((with_reducible refine held ?_); refine H_load_row rfl 31 _ rfl B rfl 31 lx.cells.toArray (0, 0) _ hZ' Tryz.underlying31 rfl lnSize ?_)
                  | ((with_reducible refine held ?_); refine H_store_row rfl 31 _ _ rfl _ lx.cells.toArray rfl rfl 31 _ (alloc_new rfl) lnSize rfl (ln_all lx) ?_))
                obtain ⟨F, hF⟩ : ∃ D, U.heap.size = D := ⟨_, rfl⟩
                rw [hF]
                refine wp_letter (fun X2 => UpI U X2 ∧ X2.heap[F]? = some (.cells lx.cells.toArray 31 (0, 0))) ⟨⟨UpI.row hF _⟩, setRow_heap _ _ _ _ _ _ (alloc_new hF)⟩ ?_
                haveI : GeSize U F := ⟨by omega⟩
                haveI : GeSize wr F := ⟨by have := uU.up.size; omega⟩
                clear hZ' hF
                rintro X2 ⟨uX, hX⟩
                haveI := uX
                haveI : UpI wr X2 := ⟨uU.up.trans uX.up⟩
                have hz := LnAt.of_heap hX
                haveI := hz.lt
                have f7 : X2.frozen? ⟨F, 7, none⟩ = false := by simp [World.frozen?, hX]
                have f8 : X2.frozen? ⟨F, 8, none⟩ = false := by simp [World.frozen?, hX]
                have f10 : X2.frozen? ⟨F, 10, none⟩ = false := by simp [World.frozen?, hX]
                obtain ⟨c0, c1, c2, c3, c4, c5, c6, c7, c8, c9, c10⟩ := hz
                clear hX
                go_upto_region 15 with fail
                refine wp_letter (fun U2 => UpI U U2 ∧ LnAt U2 F (lx.setB ((n : Int) % 2 == 0) ((n : Int) % 3 == 0) v)) ?hst ?_
                case hst => exact ⟨inferInstance, ⟨by simp [go_sem, Ln.setB, c0], by simp [go_sem, Ln.setB, c1], by simp [go_sem, Ln.setB, c2], by simp [go_sem, Ln.setB, c3], by simp [go_sem, Ln.setB, c4], by simp [go_sem, Ln.setB, c5], by simp [go_sem, Ln.setB, c6], by simp [go_sem, Ln.setB, c7], by simp [go_sem, Ln.setB, c8], by simp [go_sem, Ln.setB, c9], by simp [go_sem, Ln.setB, c10]⟩⟩
                clear f7 f8 f10 c0 c1 c2 c3 c4 c5 c6 c7 c8 c9 c10
                have hbz : LnB (lx.setB ((n : Int) % 2 == 0) ((n : Int) % 3 == 0) v) := Ln.setB_b hbx ⟨v0, v1⟩
                rintro U2 ⟨uU2, hz⟩
                generalize lx.setB ((n : Int) % 2 == 0) ((n : Int) % 3 == 0) v = z at hz hbz
                haveI := uU2
                haveI : UpI V U2 := ⟨(upI : Up V U).trans uU2.up⟩
                haveI : UpI Y U2 := ⟨(upI : Up Y U).trans uU2.up⟩
                haveI : UpI w U2 := ⟨uV.up.trans (upI : Up V U2)⟩
                haveI := hz.lt
                have hD' := (hy.up uU2.up)
                haveI := hD'.lt
                have hS0 := (HV.up (upI : Up V U2)).s0
                have hS1 := (HV.up (upI : Up V U2)).s1
                haveI : LtSize q U2 := ⟨(HV.up (upI : Up V U2)).lq0⟩
                have hYr := hD'.range
                have hZr := hz.range
                clear hD' hy hz
                go_cut [86] (fun v wx => v = .bool false ∧ UpI U2 wx)
                case first =>
                  refine wp_region_ext (by kernel_rfl) (by kernel_rfl) ?_
                  (try dsimp only [List.append])
                  repeat (first
                    | go_big_quiet_skip
                    | ((with_reducible refine held ?_); refine HQ_load_mid (by kernel_rfl) 31 _ rfl D 0 rfl y.cells _ (range_ext hYr) Tryz.underlying31 rfl lnSize ?_; simp only [Act.put, List.setIfInBounds_toArray, List.set_cons_succ, List.set_cons_zero])
                    | ((with_reducible refine held ?_); refine HQ_load_mid (by kernel_rfl) 31 _ rfl F 0 rfl z.cells _ (range_ext hZr) Tryz.underlying31 rfl lnSize ?_; simp only [Act.put, List.setIfInBounds_toArray, List.set_cons_succ, List.set_cons_zero])
                    | go_big_quiet_step ((go_at_call 5; first | with_reducible exact (C.tx y sa _ (g.up upI) hby).ext | with_reducible exact (C.tx z sb _ (g.up upI) hbz).ext)))
                  refine wpQuiet_nil ?_
                  rintro _ ⟨z2, rfl⟩
                  go_wp2_with fail
                  go_meet
                  exact ⟨rfl, inferInstance⟩
                case rest =>
                  obtain ⟨rfl, uc⟩ := hcut
                  haveI := uc
                  go_wp2_with fail
                  go_roundw
                  case rel => exact ⟨rfl, m + 1, Nat.succ_le_of_lt hm2, by go_num, ((upI : Up Y U2).trans uc.up)⟩
                  case measure => simp [intOf]; omega
              · have hge : ¬ (m : Int) < 5 := by omega
                clear hm2 hm
                go_wp2_with fail
                go_roundw
                case rel => exact ⟨rfl, n + 1, Nat.succ_le_of_lt hn2, by go_num, (upI : Up Z wr)⟩
                case measure => simp [intOf]; omega
          · have hge : ¬ (n : Int) < 12 := by omega
            clear hn2 hn
            go_wp2_with fail
            go_roundw
            case rel => exact ⟨rfl, k + 1, Nat.succ_le_of_lt hlt, by go_num, (upI : Up V wr)⟩
            case measure => simp [intOf]; omega
      · have hge : ¬ (k : Int) < 2 := by omega
        clear hlt hk
        obtain ⟨i0, hi, hy0, hy1, hy2⟩ := info_parts infoStr
        have Hi := Lib.hid hi; have Hy0 := Lib.hid hy0; have Hy1 := Lib.hid hy1; have Hy2 := Lib.hid hy2
        clear hi hy0 hy1 hy2
        have hHr := HV.up hu
        haveI : LtSize q wr := ⟨hHr.lq0⟩
        have hSc := Lib.hid (show ∀ (j : Nat) (u : Value), [Value.string sa, .string sb][j]? = some u → wr.cell? ⟨q, j, none⟩ = some u from fun j u hj => by
          rcases (by have := (List.getElem?_eq_some_iff.1 hj).1; simp at this; omega : j = 0 ∨ j = 1) with rfl | rfl
          · simp at hj; subst hj; exact hHr.s0
          · simp at hj; subst hj; exact hHr.s1)
        clear hHr
        go_upto_region 21 with (first
          | (at_builtin; refine wpList_append_grows _ rfl _ _ 23 rfl 9 i0 (.string ⟨#[]⟩) 1 16 Tryz.underlying23 Hi.out Hy0.out Hy1.out Hy2.out rfl (by decide) (some ⟨q, 0, none⟩) 2 2 [.string sa, .string sb] rfl (by intro h; cases h) rfl ?c1 ⟨_, 0, none⟩ 2 2 [.string ⟨exTc.toArray⟩, .string ⟨exTd.toArray⟩] rfl rfl ?c2 ?c3 (by decide) (by unfold maxLen; decide) (by decide) ?_))
        case c1 => intro j u hj; exact hSc.out j u hj
        case c2 => intro j u hj; exact hj
        case c3 => exact ⟨rfl, rfl⟩
        intro v' w1 hown hgrow
        have hu1 : Up V w1 := Up.grown (upI : Up V _) hgrow (by intro k h; cases h)
        obtain ⟨G, cap, rfl, _, hG, hcap, hcs⟩ := owns_cells hown (by decide)
        haveI : LtSize G w1 := ⟨hG⟩
        go_upto_region 21 with fail
        refine wp_letter (fun U => UpI V U ∧ LtSize G U ∧ ∀ k : Nat, k < 4 → ∃ t : ByteArray, U.cell? ⟨G, k, none⟩ = some (.string t) ∧ t.size ≤ 300) ⟨⟨hu1⟩, ⟨hG⟩, fun k hk => ?hst5⟩ ?_
        case hst5 =>
          rcases (by omega : k = 0 ∨ k = 1 ∨ k = 2 ∨ k = 3) with rfl | rfl | rfl | rfl
          · exact ⟨_, hcs 0 _ rfl, hsa⟩
          · exact ⟨_, hcs 1 _ rfl, hsb⟩
          · exact ⟨_, hcs 2 _ rfl, by decide⟩
          · exact ⟨_, hcs 3 _ rfl, by decide⟩
        clear hown hgrow hu1 hcs hG hSc Hi Hy0 Hy1 Hy2 i0
        rintro U ⟨uU, gU, h4⟩
        haveI := uU
        haveI := gU
        go_wp2_with fail
        go_loopw [0, 94] (fun r i wr => r = .bool false ∧ ∃ k : Nat, k ≤ 4 ∧ i = .int .i64 (k : Int) ∧ ∃ x : Ext U, wr = x.w) (fun _ i _ => 4 - (intOf i).toNat)
        case atStart => exact ⟨rfl, 0, Nat.zero_le _, rfl, (Up.refl U).mk⟩
        case round =>
          obtain ⟨rfl, k2, hk2, rfl, x2, rfl⟩ := hrel
          by_cases hl2 : k2 < 4
          · have hl2' : (k2 : Int) < 4 := by omega
            have k20 : (0 : Int) ≤ (k2 : Int) := by omega
            obtain ⟨tb, cs, hs⟩ := h4 k2 hl2
            haveI : I64 ((tb.size : Int) + 1) := ⟨by omega⟩
            clear h4
            go_upto_region 24 with fail
            go_loopw [0, 101] (fun r i wr => r = .bool false ∧ ∃ p2 : Nat, p2 ≤ tb.size + 1 ∧ i = .int .i64 (p2 : Int) ∧ ∃ y : Ext U, wr = y.w) (fun _ i _ => tb.size + 1 - (intOf i).toNat)
            case atStart => exact ⟨rfl, 0, by omega, rfl, mkI⟩
            case round =>
              obtain ⟨rfl, p2, hp, rfl, y3, rfl⟩ := hrel
              by_cases hpl : p2 ≤ tb.size
              · have hp2 : (p2 : Int) ≤ (tb.size : Int) := by omega
                have hp3 : (p2 : Int) < (tb.size : Int) + 1 := by omega
                have p0 : (0 : Int) ≤ (p2 : Int) := by omega
                haveI : I64 ((p2 : Int) + 1) := ⟨by omega⟩
                go_upto_region 27 with fail
                obtain ⟨C6, hC⟩ : ∃ C, y3.w.heap.size = C := ⟨_, rfl⟩
                refine wp_letter (fun W4 => UpI U W4 ∧ LtSize C6 W4 ∧ ∀ j : Nat, j < 6 → ∃ t : ByteArray, W4.cell? ⟨C6, j, none⟩ = some (.string t) ∧ t.size ≤ 20) ?hst4 ?_
                case hst4 =>
                  subst hC
                  refine ⟨inferInstance, inferInstance, fun j hj => ?_⟩
                  rw [World.cell?_alloc_at _ _ _ _ rfl]
                  rcases (by omega : j = 0 ∨ j = 1 ∨ j = 2 ∨ j = 3 ∨ j = 4 ∨ j = 5) with rfl | rfl | rfl | rfl | rfl | rfl <;> exact ⟨_, rfl, by decide⟩
                (try rw [hC])
                clear hC
                rintro W4 ⟨u4, l4, h4⟩
                haveI := u4
                haveI := l4
                haveI : UpI V W4 := ⟨(upI : Up V U).trans u4.up⟩
                go_wp2_with fail
                go_loopw [0, 106] (fun r i wr => r = .bool false ∧ ∃ j : Nat, j ≤ 6 ∧ i = .int .i64 (j : Int) ∧ ∃ y : Ext W4, wr = y.w) (fun _ i _ => 6 - (intOf i).toNat)
                case atStart => exact ⟨rfl, 0, by omega, rfl, (Up.refl W4).mk⟩
                case round =>
                  obtain ⟨rfl, j, hj, rfl, v4, rfl⟩ := hrel
                  by_cases hjl : j < 6
                  · have hjl' : (j : Int) < 6 := by omega
                    have j0 : (0 : Int) ≤ (j : Int) := by omega
                    obtain ⟨ch, ct, ht⟩ := h4 j hjl
                    clear h4
                    haveI : UpI V v4.w := ⟨(upI : Up V W4).trans v4.up⟩
                    haveI : UpI w v4.w := ⟨(upI : Up w V).trans (upI : Up V v4.w)⟩
                    go_upto_region 29 with fail
                    have hH4 := HV.up (upI : Up V v4.w)
                    have hcA := hH4.ca
                    have hRa := hH4.ra
                    have hRb := hH4.rb
                    haveI : LtSize A v4.w := ⟨hH4.la0⟩
                    haveI : LtSize p v4.w := ⟨hH4.lp0⟩
                    clear hH4
                    go_cut [161] (fun v wx => v = .bool false ∧ UpI v4.w wx)
                    case first =>
                      have n1 : ¬ 9223372036854775807 < p2 + ch.size := by omega
                      have n2 : ¬ 9223372036854775807 < p2 + ch.size + (tb.size - p2) := by omega
                      have n3 : ¬ 9223372036854775807 < p2 + ch.size + (tb.size - (p2 + 1)) := by omega
                      have n4 : ¬ 9223372036854775807 < p2 + (tb.size - p2) := by omega
                      have n5 : ¬ 9223372036854775807 < p2 + (tb.size - (p2 + 1)) := by omega
                      have hm1 : min p2 tb.size = p2 := by omega
                      by_cases hpN : p2 < tb.size
                      · have hpN' : decide ((p2 : Int) < (tb.size : Int)) = true := decide_eq_true (by omega)
                        have hpN2 : (p2 : Int) + 1 ≤ (tb.size : Int) := by omega
                        have p10 : (0 : Int) ≤ (p2 : Int) + 1 := by omega
                        refine wp_region_ext (by kernel_rfl) (by kernel_rfl) ?_
                        (try dsimp only [List.append])
                        repeat (first
                          | go_big_quiet_skip
                          | ((with_reducible refine held ?_); refine HQ_load_mid (by kernel_rfl) 31 _ rfl p 0 rfl la.cells _ (range_ext hRa) Tryz.underlying31 rfl lnSize ?_; simp only [Act.put, List.setIfInBounds_toArray, List.set_cons_succ, List.set_cons_zero])
                          | ((with_reducible refine held ?_); refine HQ_load_mid (by kernel_rfl) 31 _ rfl p 11 rfl lb.cells _ (range_ext hRb) Tryz.underlying31 rfl lnSize ?_; simp only [Act.put, List.setIfInBounds_toArray, List.set_cons_succ, List.set_cons_zero])
                          | go_big_quiet_step ((go_at_call 5; first | with_reducible exact (C.tx la _ _ (g.up upI) ba).ext | with_reducible exact (C.tx lb _ _ (g.up upI) bb).ext)))
                        refine wpQuiet_nil ?_
                        rintro _ ⟨z2, rfl⟩
                        go_wp2_with fail
                        go_meet
                        exact ⟨rfl, inferInstance⟩
                      · have hpN' : decide ((p2 : Int) < (tb.size : Int)) = false := decide_eq_false (by omega)
                        refine wp_region_ext (by kernel_rfl) (by kernel_rfl) ?_
                        (try dsimp only [List.append])
                        repeat (first
                          | go_big_quiet_skip
                          | ((with_reducible refine held ?_); refine HQ_load_mid (by kernel_rfl) 31 _ rfl p 0 rfl la.cells _ (range_ext hRa) Tryz.underlying31 rfl lnSize ?_; simp only [Act.put, List.setIfInBounds_toArray, List.set_cons_succ, List.set_cons_zero])
                          | ((with_reducible refine held ?_); refine HQ_load_mid (by kernel_rfl) 31 _ rfl p 11 rfl lb.cells _ (range_ext hRb) Tryz.underlying31 rfl lnSize ?_; simp only [Act.put, List.setIfInBounds_toArray, List.set_cons_succ, List.set_cons_zero])
                          | go_big_quiet_step ((go_at_call 5; first | with_reducible exact (C.tx la _ _ (g.up upI) ba).ext | with_reducible exact (C.tx lb _ _ (g.up upI) bb).ext)))
                        refine wpQuiet_nil ?_
                        rintro _ ⟨z2, rfl⟩
                        go_wp2_with fail
                        go_meet
                        exact ⟨rfl, inferInstance⟩
                    case rest =>
                      obtain ⟨rfl, uc⟩ := hcut
                      haveI := uc
                      haveI : UpI W4 wc := ⟨v4.up.trans uc.up⟩
                      go_wp2_with fail
                      go_roundw
                      case rel => exact ⟨rfl, j + 1, by omega, by go_num, mkI⟩
                      case measure => simp [intOf] <;> omega
                  · have hj' : ¬ (j : Int) < 6 := by omega
                    haveI : UpI U v4.w := ⟨u4.up.trans v4.up⟩
                    clear hj hjl h4
                    go_wp2_with fail
                    go_roundw
                    case rel => exact ⟨rfl, p2 + 1, by omega, by go_num, mkI⟩
                    case measure => simp [intOf] <;> omega
              · have hp2 : ¬ (p2 : Int) < (tb.size : Int) + 1 := by omega
                go_wp2_with fail
                go_roundw
                case rel => exact ⟨rfl, k2 + 1, by omega, by go_num, mkI⟩
                case measure => simp [intOf] <;> omega
          · have hge2 : ¬ (k2 : Int) < 4 := by omega
            clear hl2 hk2 h4
            haveI : UpI V x2.w := ⟨(upI : Up V U).trans x2.up⟩
            go_upto_region 34 with fail
            refine wp_letter (fun W5 => UpI V W5) inferInstance ?_
            intro W5 u5
            haveI := u5
            rename_i qi0_ qi1_ qi2_ qi3_ qi4_ qi5_ qi6_ qi7_ qi8_ qi9_ qi10_ qi11_ qi12_ qi13_ qi14_ qi15_ qi16_ qi17_ qi18_ qi19_
            revert u117 u118 u119 u120 u121 u122 u123 u124 u125 u126 u127 u128 u129 u130 u131 u132 u133 u134 u135 u136 u137 u138 u139 u140 u141 u142 u143 u144 u145 u146 u147 u148 u149 u150 u151 u152 u153 u154 u155 u156 u157 u158 u159 u160 u161 u162 u163 u164 k2 x2 hge2 qi14_ qi15_ qi16_ qi17_ qi18_ qi19_ W5 u5 this
            revert u75 u76 u77 u78 u79 u80 u81 u82 u83 u84 u85 u86 u87 u88 u89 k hu qi4_ qi5_ qi6_ qi7_ qi8_ qi9_ hge w1 G cap qi10_ hcap qi11_ U uU gU qi12_ qi13_ u11 u12 u14 u95 u96 u97 u98 u99 u100 u101 u102 u103 u104 u105 u106 u107 u108 u109 u110 u111 u112 u113 u114 u115 u116
            revert p q qi1_ A V uV la lb sa sb ba bb hsa hsb HV qi2_ wr u4 qi3_ u7 u8 u9 u37 u38 u39 u40 u41 u42 u43 u44 u45 u46 u47 u48 u49 u50 u51 u52 u53 u54 u55 u56 u57 u58 u59 u60 u61 u62 u63 u64 u65 u66 u67 u68 u69 u70 u71 u72 u73 u74
            revert C w g qi0_
            exact hR.out
set_option maxHeartbeats 64000000 in
set_option maxRecDepth 100000 in
noncomputable def dsPart1 : PSigma (fun R : Prop => KeptB R → dsPart0.1) := by
  apply PSigma.mk
  case snd =>
    intro hR
    unfold dsPart0
    intro C w g qi0_ p q qi1_ A V uV la lb sa sb ba bb hsa hsb HV qi2_ wr u4 qi3_ u7 u8 u9 u37 u38 u39 u40 u41 u42 u43 u44 u45 u46 u47 u48 u49 u50 u51 u52 u53 u54 u55 u56 u57 u58 u59 u60 u61 u62 u63 u64 u65 u66 u67 u68 u69 u70
    intro u71 u72 u73 u74 u75 u76 u77 u78 u79 u80 u81 u82 u83 u84 u85 u86 u87 u88 u89 k hu qi4_ qi5_ qi6_ qi7_ qi8_ qi9_ hge w1 G cap qi10_ hcap qi11_ U uU gU qi12_ qi13_ u11 u12 u14 u95 u96 u97 u98 u99 u100 u101 u102 u103 u104 u105 u106 u107 u108 u109 u110 u111 u112
    intro u113 u114 u115 u116 u117 u118 u119 u120 u121 u122 u123 u124 u125 u126 u127 u128 u129 u130 u131 u132 u133 u134 u135 u136 u137 u138 u139 u140 u141 u142 u143 u144 u145 u146 u147 u148 u149 u150 u151 u152 u153 u154 u155 u156 u157 u158 u159 u160 u161 u162 u163 u164 k2 x2 hge2 qi14_ qi15_ qi16_ qi17_ qi18_
    intro qi19_ W5 u5 this
    have hH5 := HV.up (upI : Up V W5)
    have hcA := hH5.ca
    have hRa := hH5.ra
    have hRb := hH5.rb
    haveI : LtSize A W5 := ⟨hH5.la0⟩
    haveI : LtSize p W5 := ⟨hH5.lp0⟩
    have a0 := hRa 0 _ rfl
    have a1 := hRa 1 _ rfl
    have a2 := hRa 2 _ rfl
    have a3 := hRa 3 _ rfl
    have a4 := hRa 4 _ rfl
    have b0 := hRb 0 _ rfl
    have b1 := hRb 1 _ rfl
    have b2 := hRb 2 _ rfl
    have b3 := hRb 3 _ rfl
    have b4 := hRb 4 _ rfl
    simp only [Nat.zero_add, Nat.reduceAdd] at a0 a1 a2 a3 a4 b0 b1 b2 b3 b4
    clear hH5 hRa hRb
    go_cut [15] (fun v wx => ∃ kp bk, v = .pointer (some ⟨kp, 0, none⟩) ∧ UpI W5 wx ∧ wx.cell? ⟨kp, 0, none⟩ = some (.slice (some ⟨bk, 0, none⟩) 3 3) ∧ kp < wx.heap.size ∧ bk < wx.heap.size ∧ K15 wx bk la.turn la lb)
    case first =>
      go_region_held3 (fun w' => UpI W5 w' ∧ w'.cell? ⟨A, 0, none⟩ = some (.slice (some ⟨p, 0, none⟩) 2 2) ∧ (w'.cell? ⟨p, 0, none⟩ = some (.int .u8 la.pr) ∧ w'.cell? ⟨p, 1, none⟩ = some (.int .u32 la.s) ∧ w'.cell? ⟨p, 2, none⟩ = some (.int .u32 la.d) ∧ w'.cell? ⟨p, 3, none⟩ = some (.int .u16 la.sp) ∧ w'.cell? ⟨p, 4, none⟩ = some (.int .u16 la.dp)) ∧ (w'.cell? ⟨p, 11, none⟩ = some (.int .u8 lb.pr) ∧ w'.cell? ⟨p, 12, none⟩ = some (.int .u32 lb.s) ∧ w'.cell? ⟨p, 13, none⟩ = some (.int .u32 lb.d) ∧ w'.cell? ⟨p, 14, none⟩ = some (.int .u16 lb.sp) ∧ w'.cell? ⟨p, 15, none⟩ = some (.int .u16 lb.dp)))
        (exact ⟨inferInstance, (upI : Up W5 _).cell_some' hcA, ⟨(upI : Up W5 _).cell_some' a0, (upI : Up W5 _).cell_some' a1, (upI : Up W5 _).cell_some' a2, (upI : Up W5 _).cell_some' a3, (upI : Up W5 _).cell_some' a4⟩, ⟨(upI : Up W5 _).cell_some' b0, (upI : Up W5 _).cell_some' b1, (upI : Up W5 _).cell_some' b2, (upI : Up W5 _).cell_some' b3, (upI : Up W5 _).cell_some' b4⟩⟩)
        (first
          | (go_at_call 6; refine (turn_any la.pr la.s la.d la.sp la.dp _).mono ?_; rintro e w' ⟨rfl, z, rfl⟩))
      all_goals (go_wp2_with fail; go_meet; exact ⟨_, _, rfl, inferInstance, by simp [go_sem]; rfl, by exact (inferInstance : LtSize _ _).lt, by exact (inferInstance : LtSize _ _).lt, ⟨by simp [go_sem, Ln.turn], by simp [go_sem, Ln.turn], by simp [go_sem, Ln.turn], by simp [go_sem, Ln.turn], by simp [go_sem, Ln.turn], by simp [go_sem], by simp [go_sem], by simp [go_sem], by simp [go_sem], by simp [go_sem], by simp [go_sem], by simp [go_sem], by simp [go_sem], by simp [go_sem], by simp [go_sem]⟩⟩)
    case rest =>
      obtain ⟨kp, bk, rfl, uc, hkp, lkp, lbk, hK⟩ := hcut
      haveI := uc
      clear hcA a0 a1 a2 a3 a4 b0 b1 b2 b3 b4
      have hSm : SmHeld wc kp A bk p [la.turn, la, lb] [la, lb] := hK.held hkp lkp lbk (HV.up ((upI : Up V W5).trans uc.up))
      have bks : ∀ x ∈ [la.turn, la, lb], LnB x := by
        intro x hx; simp at hx; rcases hx with rfl | rfl | rfl <;> first | exact Ln.turn_b ba | exact ba | exact bb
      have bls : ∀ x ∈ [la, lb], LnB x := by
        intro x hx; simp at hx; rcases hx with rfl | rfl <;> first | exact ba | exact bb
      go_wp2_with fail
      refine wp_letter (fun W6 => UpI V W6 ∧ SmHeld W6 kp A bk p [la.turn, la, lb] [la, lb]) ⟨⟨(upI : Up V W5).trans (uc.up.trans upI)⟩, hSm.up upI⟩ ?_
      clear hK hkp lkp lbk hSm uc
      obtain ⟨ks, hks, hk3⟩ : ∃ ks, ks = [la.turn, la, lb] ∧ ks.length = 3 := ⟨_, rfl, rfl⟩
      obtain ⟨ls, hls, hl2⟩ : ∃ ls, ls = [la, lb] ∧ ls.length = 2 := ⟨_, rfl, rfl⟩
      rw [← hks] at bks ⊢
      rw [← hls] at bls ⊢
      have Hk3 := Lib.hid hk3
      have Hl2 := Lib.hid hl2
      clear hks hls hk3 hl2
      rintro W6 ⟨u6, hSm⟩
      haveI := u6
      go_loopw [0, 180] (fun r i wr => r = .bool false ∧ ∃ n : Nat, n ≤ 4096 ∧ i = .int .i64 (n : Int) ∧ ∃ x : Ext W6, wr = x.w) (fun _ i _ => 4096 - (intOf i).toNat)
      case atStart => exact ⟨rfl, 0, by omega, rfl, mkI⟩
      case round =>
        obtain ⟨rfl, n, hn, rfl, x6, rfl⟩ := hrel
        by_cases hnl : n < 4096
        · have hnl' : (n : Int) < 4096 := by omega
          have n0 : (0 : Int) ≤ (n : Int) := by omega
          have q0 : (0 : Int) ≤ (n : Int) % 64 := by omega
          have q1 : (n : Int) % 64 < 64 := by omega
          have d0 : (0 : Int) ≤ (n : Int) / 64 := by omega
          have d1 : (n : Int) / 64 < 64 := by omega
          haveI : UpI V x6.w := ⟨u6.up.trans x6.up⟩
          haveI : UpI w x6.w := ⟨uV.up.trans (upI : Up V x6.w)⟩
          go_upto_region 40 with (first
            | (go_at_call 7; (with_reducible refine (dumps_any ((n : Int) % 64) kp A bk p ks ls _ (hSm.up upI) Hk3.out Hl2.out bks bls q0 q1).mono ?_); rintro e w' ⟨v1, a1, rfl, R1, nl1, le1, bd1, y1, rfl⟩)
            | (go_at_call 7; (with_reducible refine (dumps_any ((n : Int) / 64) kp A bk p ks ls _ (hSm.up upI) Hk3.out Hl2.out bks bls d0 d1).mono ?_); rintro e w' ⟨v2, a2, rfl, R2, nl2, le2, bd2, y2, rfl⟩))
          go_upto_region 41 with (go_at_call 8; (with_reducible refine (ddiff_all a1 a2 v1 v2 _ (lnUp R1) R2 bd1 bd2 le1 le2).mono ?_); rintro e w' ⟨qc, cc, cl, er, rfl, R3, nl3, le3, bd3, y3, rfl⟩)
          have R1' : LnRow y3.w v1 a1 := lnUp R1
          have R2' : LnRow y3.w v2 a2 := lnUp R2
          refine wp_letter (fun W7 => UpI x6.w W7 ∧ LnRow W7 v1 a1 ∧ LnRow W7 v2 a2 ∧ ChRow W7 (.slice qc cl.length cc) cl) ⟨inferInstance, R1', R2', R3⟩ ?_
          clear R1 R2 R3 R1' R2'
          rintro W7 ⟨u7, R1, R2, R3⟩
          haveI := u7
          haveI : UpI w W7 := ⟨(upI : Up w x6.w).trans u7.up⟩
          haveI : UpI W6 W7 := ⟨x6.up.trans u7.up⟩
          have R3h := Lib.hid R3
          have bd3h := Lib.hid bd3
          have nl3h := Lib.hid nl3
          obtain ⟨N, hN⟩ : ∃ N, cl.length = N := ⟨_, rfl⟩
          rw [hN] at R3h nl3h ⊢
          have HN := Lib.hid hN
          have le3' : N ≤ 6 := by omega
          clear R3 bd3 nl3 le3 hN
          clear y1 y2 y3
          go_upto_region 43 with (first
            | (go_at_call 9; (with_reducible refine (C.ls a1 a2 [] v1 v2 (.slice none 0 0) _ (g.up upI) (lnUp R1) (lnUp R2) (strNil _) nl1 nl2 nilNil bd1 bd2).mono ?_); rintro e w' ⟨rfl, z1, rfl⟩)
            | (go_at_call 10; (with_reducible refine (C.ap a1 cl v1 (.slice qc N cc) _ (lnUp R1) (chUp R3h.out) nl1 nl3h.out bd1 bd3h.out (by omega) (by rw [HN.out]; omega)).mono ?_); rintro e w' ⟨rfl, z2, rfl⟩)
            | (go_at_call 10; (with_reducible refine (C.ap a2 cl v2 (.slice qc N cc) _ (lnUp R2) (chUp R3h.out) nl2 nl3h.out bd2 bd3h.out (by omega) (by rw [HN.out]; omega)).mono ?_); rintro e w' ⟨rfl, z3, rfl⟩))
          refine wp_letter (fun W8 => UpI W7 W8) inferInstance ?_
          intro W8 u8
          haveI := u8
          haveI : UpI w W8 := ⟨(upI : Up w W7).trans u8.up⟩
          go_wp2_with fail
          go_loopw [0, 215] (fun r i wr => r = .bool false ∧ ∃ k3 : Nat, k3 ≤ N ∧ i = .int .i64 (k3 : Int) ∧ ∃ x : Ext W8, wr = x.w) (fun _ i _ => N - (intOf i).toNat)
          case atStart => exact ⟨rfl, 0, by omega, rfl, mkI⟩
          case round =>
            obtain ⟨rfl, k3, hk3, rfl, x8, rfl⟩ := hrel
            by_cases hl3 : k3 < N
            · have hl3' : (k3 : Int) < (N : Int) := by omega
              have k30 : (0 : Int) ≤ (k3 : Int) := by omega
              obtain ⟨c0, hc0⟩ : ∃ c, cl[k3]? = some c := ⟨_, List.getElem?_eq_getElem (by rw [HN.out]; exact hl3)⟩
              obtain ⟨b1, o1, rfl, hb1, hNc⟩ := chAtM R3h.out hc0
              have hN0 : 0 < 0 + N := by omega
              have hN1 : 0 + N ≤ maxLen := by unfold maxLen; omega
              have hN2 : (0 + N) * 88 ≤ 140737488355328 := by omega
              have hN3 : (cl.flatMap Ch.cells).length = N * 23 := by rw [flat_length Ch.cells_length, HN.out]
              obtain ⟨i1, hi, hy0, hy1, hy2⟩ := info_parts infoChange
              have Hi := Lib.hid hi; have Hy0 := Lib.hid hy0; have Hy1 := Lib.hid hy1; have Hy2 := Lib.hid hy2
              clear hi hy0 hy1 hy2
              have Hc0 := Lib.hid hc0
              clear hc0
              go_upto_region 47 with (first
                | (at_builtin; refine wpList_append_grows _ rfl _ _ 37 rfl 44 i1 (Ch.mk 0 Ln.zero Ln.zero).val 23 88 Tryz.underlying37 Hi.out Hy0.out Hy1.out Hy2.out rfl (by decide) (some ⟨_, 0, none⟩) 0 0 [] rfl (by intro h; cases h) rfl (fun b hb j u hj => by simp at hj) ⟨b1, o1, none⟩ N cc (cl.flatMap Ch.cells) rfl hN3 (fun j u hj => row_cellsM Ch.cells_length (by decide) (chUp R3h.out) j u hj) (chs_one cl) hN0 hN1 hN2 ?_))
              intro v' w1 hown hgrow
              have hu1 : Up W8 w1 := Up.grown (upI : Up W8 _) hgrow (by intro k h; cases h)
              have hown2 : w1.ownsRow W8.heap.size 44 23 v' N (cl.flatMap Ch.cells) := ownsDown (a := x8.w.heap.size + 1) (by simpa using hown) (Nat.le_succ_of_le x8.up.size)
              obtain ⟨G2, cap2, rfl, hge2, hG2, hcap2, hcs⟩ := owns_cells hown2 (by omega)
              haveI : LtSize G2 w1 := ⟨hG2⟩
              haveI : UpI W8 w1 := ⟨hu1⟩
              clear hown hgrow
              go_upto_region 47 with fail
              refine wp_letter (fun Y => UpI W8 Y ∧ LtSize G2 Y ∧ Hid (Y.ownsRow W8.heap.size 44 23 (.slice (some ⟨G2, 0, none⟩) N cap2) N (cl.flatMap Ch.cells))) ⟨inferInstance, inferInstance, Lib.hid (owns_up hown2 upI)⟩ ?_
              clear hown2 hcs hu1 hG2
              rintro Y ⟨uY, lY, HO⟩
              haveI := uY
              haveI := lY
              haveI : GeSize W8 G2 := ⟨hge2⟩
              haveI : UpI w Y := ⟨(upI : Up w W8).trans uY.up⟩
              have f0 := World.ownsRow.frozenAt HO.out (k3 * 23)
              have e0 := owns_at HO.out (k3 * 23) (.int .u8 c0.kind) (flat_at Ch.cells_length cl k3 0 c0 _ Hc0.out rfl)
              have hn5 : (n : Int) % 5 < 256 := by omega
              have hn50 : 0 ≤ (n : Int) % 5 := by omega
              go_upto_region 48 with fail
              have HO2 := Lib.hid (ch_store ((n : Int) % 5) HO.out Hc0.out)
              have hR2' : ChRow (Y.setCell ⟨G2, k3 * 23, none⟩ (.int .u8 ((n : Int) % 5))) (.slice (some ⟨G2, 0, none⟩) N cap2) (cl.set k3 ⟨(n : Int) % 5, c0.old, c0.new⟩) := ChRow.of_owns (by rw [List.length_set, HN.out]; exact HO2.out)
              refine wp_letter (fun Y2 => UpI W8 Y2 ∧ ChRow Y2 (.slice (some ⟨G2, 0, none⟩) N cap2) (cl.set k3 ⟨(n : Int) % 5, c0.old, c0.new⟩)) ⟨inferInstance, hR2'⟩ ?_
              clear hR2' HO2 HO f0 e0
              rintro Y2 ⟨uY2, RB⟩
              haveI := uY2
              haveI : UpI w Y2 := ⟨(upI : Up w W8).trans uY2.up⟩
              haveI : UpI W7 Y2 := ⟨(upI : Up W7 W8).trans uY2.up⟩
              have hbB := chB_set bd3h.out Hc0.out hn50 hn5
              have RD : ChRow W7 (.slice (some ⟨b1, o1 + k3 * 23, none⟩) (N - k3) (cc - k3)) (cl.drop k3) := chDrop R3h.out HN.out (Nat.le_of_lt hl3) (by omega)
              have hbD : ∀ c ∈ cl.drop k3, ChB c := fun c hc => bd3h.out c (List.mem_of_mem_drop hc)
              have lB : (cl.set k3 ⟨(n : Int) % 5, c0.old, c0.new⟩).length ≤ 9223372036854775807 := by rw [List.length_set, HN.out]; omega
              have lD : (cl.drop k3).length ≤ 9223372036854775807 := by rw [List.length_drop, HN.out]; omega
              generalize cl.set k3 ⟨(n : Int) % 5, c0.old, c0.new⟩ = cB at *
              generalize cl.drop k3 = cD at *
              have hk4 : k3 < cc := by omega
              have hk5 : ¬ cc = k3 := by omega
              have hk6 : ¬ k3 = cc := by omega
              have hk7 : k3 ≤ N := by omega
              have hk8 : (k3 : Int) ≤ (cc : Int) := by omega
              go_wp2_with (first
                | (go_at_call 10; (with_reducible refine (C.ap a1 cB v1 (.slice (some ⟨G2, 0, none⟩) N cap2) _ (lnUp R1) (chUp RB) nl1 (nilSome _ _ _) bd1 hbB (by omega) lB).mono ?_); rintro e w' ⟨rfl, z4, rfl⟩)
                | (go_at_call 10; (with_reducible refine (C.ap a1 cD v1 (.slice (some ⟨b1, o1 + k3 * 23, none⟩) (N - k3) (cc - k3)) _ (lnUp R1) (chUp RD) nl1 (nilSome _ _ _) bd1 hbD (by omega) lD).mono ?_); rintro e w' ⟨rfl, z5, rfl⟩))
              go_roundw
              case rel => exact ⟨rfl, k3 + 1, by omega, by go_num, mkI⟩
              case measure => simp [intOf] <;> omega
            · have hge8 : ¬ (k3 : Int) < (N : Int) := by omega
              haveI : UpI W6 x8.w := ⟨(upI : Up W6 W7).trans (u8.up.trans x8.up)⟩
              clear hl3 hk3
              go_wp2_with fail
              go_roundw
              case rel => exact ⟨rfl, n + 1, by omega, by go_num, mkI⟩
              case measure => simp [intOf] <;> omega
        · have hge7 : ¬ (n : Int) < 4096 := by omega
          clear hnl hn
          haveI : UpI V x6.w := ⟨u6.up.trans x6.up⟩
          go_wp2_with fail
          refine wp_letter (fun W9 => UpI V W9) inferInstance ?_
          intro W9 u9
          haveI := u9
          haveI : UpI w W9 := ⟨uV.up.trans u9.up⟩
          rename_i zi0_ zi1_ zi2_ zi3_ zi4_ zi5_ zi6_ zi7_ zi8_ zi9_ zi10_ zi11_ zi12_ zi13_ zi14_ zi15_ zi16_ zi17_ zi18_ zi19_ zi20_ zi21_ zi22_ zi23_ zi24_ zi25_ zi26_ zi27_ zi28_ zi29_ zi30_ zi31_ zi32_ zi33_ zi34_ zi35_ zi36_ zi37_ zi38_ zi39_ zi40_ zi41_ zi42_ zi43_ zi44_ zi45_ zi46_ zi47_ zi48_ zi49_ zi50_ zi51_ zi52_ zi53_ zi54_ zi55_ zi56_ zi57_ zi58_ zi59_ zi60_ zi61_ zi62_ zi63_ zi64_ zi65_ zi66_ zi67_ zi68_ zi69_ zi70_ zi71_ zi72_ zi73_ zi74_ zi75_ zi76_ zi77_ zi78_ zi79_ zi80_ zi81_ zi82_ zi83_ zi84_ zi85_ zi86_ zi87_ zi88_ zi89_ zi90_ zi91_ zi92_ zi93_ zi94_ zi95_ zi96_ zi97_ zi98_ zi99_ zi100_ zi101_ zi102_ zi103_ zi104_ zi105_ zi106_ zi107_ zi108_ zi109_ zi110_ zi111_ zi112_ zi113_ zi114_ zi115_ zi116_ zi117_ zi118_ zi119_ zi120_ zi121_ zi122_ zi123_ zi124_ zi125_ zi126_ zi127_ zi128_ zi129_ zi130_ zi131_ zi132_ zi133_ zi134_ zi135_ zi136_ zi137_ zi138_ zi139_ zi140_ zi141_ zi142_ zi143_ zi144_ zi145_ zi146_ zi147_ zi148_ zi149_ zi150_ zi151_ zi152_ zi153_ zi154_ zi155_ zi156_ zi157_ zi158_ zi159_ zi160_ zi161_ zi162_ zi163_ zi164_ zi165_ zi166_ zi167_ zi168_ zi169_ zi170_ zi171_ zi172_ zi173_ zi174_ zi175_ zi176_ zi177_ zi178_ zi179_ zi180_ zi181_ zi182_ zi183_ zi184_ zi185_ zi186_
          revert u195 u196 u197 u198 u199 u200 u201 u202 u203 u204 u205 u206 u207 u208 u209 u210 u211 u212 u213 u214 u215 u216 u217 u218 u219 u220 u221 u222 u223 u224 u225 u226 u227 u228 u229 u230 u231 u232 u233 u234 u235 u236 u237 u238 u239 u240 u241 n x6 zi180_ zi181_ zi182_ zi183_ zi184_ zi185_ hge7 W9 u9 zi186_ this
          revert u300 u301 u302 u303 u304 u305 u306 u307 u308 u309 u310 u311 u312 u313 u314 u315 u316 u317 u318 u319 u320 u321 u322 u323 kp bk zi177_ zi178_ hge2 ks bks ls bls Hk3 Hl2 W6 u6 hSm zi179_ u17 u18 u19 u20 u21 u22 u23 u181 u182 u183 u184 u185 u186 u187 u188 u189 u190 u191 u192 u193 u194
          revert zi174_ zi175_ zi176_ u243 u244 u245 u246 u247 u248 u249 u250 u251 u252 u253 u254 u255 u256 u257 u258 u259 u260 u261 u262 u263 u264 u265 u266 u267 u268 u269 u270 u271 u272 u273 u274 u275 u276 u277 u278 u279 u280 u281 u282 u283 u284 u285 u286 u287 u288 u289 u290 u291 u292 u293 u294 u295 u296 u297 u298 u299
          revert u176 u177 u178 u179 zi118_ zi119_ zi120_ zi121_ zi122_ zi123_ zi124_ zi125_ zi126_ zi127_ zi128_ zi129_ zi130_ zi131_ zi132_ zi133_ zi134_ zi135_ zi136_ zi137_ zi138_ zi139_ zi140_ zi141_ zi142_ zi143_ zi144_ zi145_ zi146_ zi147_ zi148_ zi149_ zi150_ zi151_ zi152_ zi153_ zi154_ zi155_ zi156_ zi157_ zi158_ zi159_ zi160_ zi161_ zi162_ zi163_ zi164_ zi165_ zi166_ zi167_ zi168_ zi169_ zi170_ zi171_ zi172_ zi173_
          revert u116 u117 u118 u119 u120 u121 u122 u123 u124 u125 u126 u127 u128 u129 u130 u131 u132 u133 u134 u135 u136 u137 u138 u139 u140 u141 u142 u143 u144 u145 u146 u147 u148 u149 u150 u151 u152 u153 u154 u155 u156 u157 u158 u159 u160 u161 u162 u163 u164 u165 u166 u167 u168 u169 u170 u171 u172 u173 u174 u175
          revert u48 u49 u50 u51 u52 u53 u54 u55 u56 u57 u58 u59 u60 u61 u62 u63 u64 u65 u66 u67 u68 u69 u70 u71 u72 u73 u74 u75 u76 u77 u78 u79 u80 u81 u82 u83 u84 u85 u86 u87 u88 u89 u90 u91 u95 u96 u97 u98 u99 u102 u103 u107 u108 u109 u110 u111 u112 u113 u114 u115
          revert zi79_ zi80_ zi81_ zi82_ zi83_ zi84_ zi85_ zi86_ zi87_ zi88_ zi89_ zi90_ zi91_ zi92_ zi93_ zi94_ zi95_ zi96_ zi97_ zi98_ zi99_ zi100_ zi101_ zi102_ zi103_ zi104_ zi105_ zi106_ zi107_ zi108_ zi109_ zi110_ zi111_ zi112_ zi113_ zi114_ k2 x2 qi14_ qi15_ qi16_ qi17_ W5 u5 zi115_ zi116_ zi117_ wc u28 u30 u31 u32 u33 u37 u38 u39 u41 u42 u46 u47
          revert zi47_ zi48_ zi49_ k hu qi4_ qi5_ qi6_ qi7_ qi8_ qi9_ hge w1 G cap qi10_ hcap qi11_ U uU gU qi12_ qi13_ u11 u12 u14 zi50_ zi51_ zi52_ zi53_ zi54_ u100 u101 zi55_ zi56_ u104 u105 u106 zi57_ zi58_ zi59_ zi60_ zi61_ zi62_ zi63_ zi64_ zi65_ zi66_ zi67_ zi68_ zi69_ zi70_ zi71_ zi72_ zi73_ zi74_ zi75_ zi76_ zi77_ zi78_
          revert hsa hsb HV qi2_ wr u4 qi3_ u7 u8 zi0_ zi1_ zi2_ zi3_ u40 zi4_ zi5_ u43 u44 u45 zi6_ zi7_ zi8_ zi9_ zi10_ zi11_ zi12_ zi13_ zi14_ zi15_ zi16_ zi17_ zi18_ zi19_ zi20_ zi21_ zi22_ zi23_ zi24_ zi25_ zi26_ zi27_ zi28_ zi29_ zi30_ zi31_ zi32_ zi33_ zi34_ zi35_ zi36_ zi37_ zi38_ zi39_ zi40_ zi41_ zi42_ zi43_ zi44_ zi45_ zi46_
          revert C w g qi0_ p q qi1_ A V uV la lb sa sb ba bb
          exact hR.out
set_option maxHeartbeats 64000000 in
set_option maxRecDepth 100000 in
theorem dsRest : dsPart1.1 := by
  unfold dsPart1
  intro C w g qi0_ p q qi1_ A V uV la lb sa sb ba bb hsa hsb HV qi2_ wr u4 qi3_ u7 u8 zi0_ zi1_ zi2_ zi3_ u40 zi4_ zi5_ u43 u44 u45 zi6_ zi7_ zi8_ zi9_ zi10_ zi11_ zi12_ zi13_ zi14_ zi15_ zi16_ zi17_ zi18_ zi19_ zi20_ zi21_ zi22_ zi23_ zi24_ zi25_ zi26_ zi27_ zi28_ zi29_ zi30_
  intro zi31_ zi32_ zi33_ zi34_ zi35_ zi36_ zi37_ zi38_ zi39_ zi40_ zi41_ zi42_ zi43_ zi44_ zi45_ zi46_ zi47_ zi48_ zi49_ k hu qi4_ qi5_ qi6_ qi7_ qi8_ qi9_ hge w1 G cap qi10_ hcap qi11_ U uU gU qi12_ qi13_ u11 u12 u14 zi50_ zi51_ zi52_ zi53_ zi54_ u100 u101 zi55_ zi56_ u104 u105 u106 zi57_ zi58_ zi59_ zi60_ zi61_ zi62_
  intro zi63_ zi64_ zi65_ zi66_ zi67_ zi68_ zi69_ zi70_ zi71_ zi72_ zi73_ zi74_ zi75_ zi76_ zi77_ zi78_ zi79_ zi80_ zi81_ zi82_ zi83_ zi84_ zi85_ zi86_ zi87_ zi88_ zi89_ zi90_ zi91_ zi92_ zi93_ zi94_ zi95_ zi96_ zi97_ zi98_ zi99_ zi100_ zi101_ zi102_ zi103_ zi104_ zi105_ zi106_ zi107_ zi108_ zi109_ zi110_ zi111_ zi112_ zi113_ zi114_ k2 x2 qi14_ qi15_ qi16_ qi17_ W5 u5
  intro zi115_ zi116_ zi117_ wc u28 u30 u31 u32 u33 u37 u38 u39 u41 u42 u46 u47 u48 u49 u50 u51 u52 u53 u54 u55 u56 u57 u58 u59 u60 u61 u62 u63 u64 u65 u66 u67 u68 u69 u70 u71 u72 u73 u74 u75 u76 u77 u78 u79 u80 u81 u82 u83 u84 u85 u86 u87 u88 u89 u90 u91
  intro u95 u96 u97 u98 u99 u102 u103 u107 u108 u109 u110 u111 u112 u113 u114 u115 u116 u117 u118 u119 u120 u121 u122 u123 u124 u125 u126 u127 u128 u129 u130 u131 u132 u133 u134 u135 u136 u137 u138 u139 u140 u141 u142 u143 u144 u145 u146 u147 u148 u149 u150 u151 u152 u153 u154 u155 u156 u157 u158 u159
  intro u160 u161 u162 u163 u164 u165 u166 u167 u168 u169 u170 u171 u172 u173 u174 u175 u176 u177 u178 u179 zi118_ zi119_ zi120_ zi121_ zi122_ zi123_ zi124_ zi125_ zi126_ zi127_ zi128_ zi129_ zi130_ zi131_ zi132_ zi133_ zi134_ zi135_ zi136_ zi137_ zi138_ zi139_ zi140_ zi141_ zi142_ zi143_ zi144_ zi145_ zi146_ zi147_ zi148_ zi149_ zi150_ zi151_ zi152_ zi153_ zi154_ zi155_ zi156_ zi157_
  intro zi158_ zi159_ zi160_ zi161_ zi162_ zi163_ zi164_ zi165_ zi166_ zi167_ zi168_ zi169_ zi170_ zi171_ zi172_ zi173_ zi174_ zi175_ zi176_ u243 u244 u245 u246 u247 u248 u249 u250 u251 u252 u253 u254 u255 u256 u257 u258 u259 u260 u261 u262 u263 u264 u265 u266 u267 u268 u269 u270 u271 u272 u273 u274 u275 u276 u277 u278 u279 u280 u281 u282 u283
  intro u284 u285 u286 u287 u288 u289 u290 u291 u292 u293 u294 u295 u296 u297 u298 u299 u300 u301 u302 u303 u304 u305 u306 u307 u308 u309 u310 u311 u312 u313 u314 u315 u316 u317 u318 u319 u320 u321 u322 u323 kp bk zi177_ zi178_ hge2 ks bks ls bls Hk3 Hl2 W6 u6 hSm zi179_ u17 u18 u19 u20 u21
  intro u22 u23 u181 u182 u183 u184 u185 u186 u187 u188 u189 u190 u191 u192 u193 u194 u195 u196 u197 u198 u199 u200 u201 u202 u203 u204 u205 u206 u207 u208 u209 u210 u211 u212 u213 u214 u215 u216 u217 u218 u219 u220 u221 u222 u223 u224 u225 u226 u227 u228 u229 u230 u231 u232 u233 u234 u235 u236 u237 u238
  intro u239 u240 u241 n x6 zi180_ zi181_ zi182_ zi183_ zi184_ zi185_ hge7 W9 u9 zi186_ this
  go_loopw [0, 242] (fun r i wr => r = .bool false ∧ ∃ i9 : Nat, i9 ≤ 31 ∧ i = .int .i64 (i9 : Int) ∧ UpI W9 wr) (fun _ i _ => 31 - (intOf i).toNat)
  case atStart => exact ⟨rfl, 0, by omega, rfl, inferInstance⟩
  case round =>
    obtain ⟨rfl, i9, hi9, rfl, u9w⟩ := hrel
    haveI := u9w
    by_cases hl9 : i9 < 31
    · have hl9' : (i9 : Int) < 31 := by omega
      have i90 : (0 : Int) ≤ (i9 : Int) := by omega
      go_upto_region 56 with fail
      obtain ⟨C9, hC9⟩ : ∃ C, wr.heap.size = C := ⟨_, rfl⟩
      refine wp_letter (fun X => UpI wr X ∧ LtSize C9 X ∧ (∀ j, X.frozen? ⟨C9, j, none⟩ = false) ∧ X.rangeAt C9 0 ((List.replicate 31 (0 : Int)).map (Value.int .i64))) ⟨inferInstance, by subst hC9; infer_instance, by subst hC9; intro j; simp [go_sem], by subst hC9; exact ints_new wr (List.replicate 31 (0 : Int)) _⟩ ?_
      haveI : GeSize wr C9 := ⟨Nat.le_of_eq hC9⟩
      haveI : GeSize W9 C9 := ⟨Nat.le_trans u9w.up.size (Nat.le_of_eq hC9)⟩
      (try rw [hC9])
      clear hC9
      rintro X ⟨uX, lX, fX, rX⟩
      haveI := uX
      haveI := lX
      haveI : UpI W9 X := ⟨u9w.up.trans uX.up⟩
      have hL0 : (List.replicate 31 (0 : Int)).length = 31 := rfl
      have hB0 : ∀ x ∈ List.replicate 31 (0 : Int), -9223372036854775808 ≤ x ∧ x ≤ 9223372036854775807 := by intro x hx; rw [List.eq_of_mem_replicate hx]; decide
      generalize List.replicate 31 (0 : Int) = L0 at *
      obtain ⟨m, hm31, hmi⟩ : ∃ m : Nat, m < 31 ∧ ((i9 : Int) * 7) % 31 = (m : Int) := ⟨i9 * 7 % 31, by omega, by omega⟩
      have hmt : Int.tmod ((i9 : Int) * 7) 31 = (m : Int) := by rw [Int.tmod_eq_emod_of_nonneg (by omega)]; exact hmi
      have h70 : (0 : Int) ≤ (i9 : Int) * 7 := by omega
      have m0 : (0 : Int) ≤ (m : Int) := by omega
      have m1 : (m : Int) < 31 := by omega
      haveI : I64 ((i9 : Int) * 7) := ⟨by omega⟩
      haveI : I64 ((i9 : Int) % 3 - 1) := ⟨by omega⟩
      have r1 := ints_set (u := 5) rX (hL0 ▸ hl9 : i9 < L0.length)
      have r2 := ints_set (u := (i9 : Int) % 3 - 1) r1 (by rw [List.length_set, hL0]; exact hm31)
      have c0 := ints_atM rX (hL0 ▸ hl9 : i9 < L0.length)
      obtain ⟨e1, c1⟩ : ∃ e, (X.setCell ⟨C9, i9, none⟩ (.int .i64 5)).cell? ⟨C9, m, none⟩ = some (.int .i64 e) := ⟨_, ints_atM r1 (by rw [List.length_set, hL0]; exact hm31 : m < (L0.set i9 5).length)⟩
      have f0 := fX i9
      have f1 := fX m
      have hBL : ∀ x ∈ (L0.set i9 5).set m ((i9 : Int) % 3 - 1), -9223372036854775808 ≤ x ∧ x ≤ 9223372036854775807 := by
        intro x hx
        rcases List.mem_or_eq_of_mem_set hx with hx | rfl
        · rcases List.mem_or_eq_of_mem_set hx with hx | rfl
          · exact hB0 x hx
          · decide
        · omega
      have hLL : ((L0.set i9 5).set m ((i9 : Int) % 3 - 1)).length = 31 := by simp [hL0]
      have R2 := Lib.hid r2
      clear r1 r2 rX
      generalize L0[i9] = e0 at *
      go_upto_region 57 with fail
      refine wp_letter (fun X2 => UpI W9 X2 ∧ LtSize C9 X2 ∧ Hid (X2.rangeAt C9 0 (((L0.set i9 5).set m ((i9 : Int) % 3 - 1)).map (Value.int .i64)))) ⟨inferInstance, inferInstance, R2⟩ ?_
      clear R2 c0 c1 f0 f1 fX hmi hmt h70 m0 m1
      rintro X2 ⟨uX2, lX2, R2⟩
      have HB := Lib.hid hBL
      have HL := Lib.hid hLL
      clear hBL hLL
      generalize (L0.set i9 5).set m ((i9 : Int) % 3 - 1) = LL at *
      clear hL0 hB0
      haveI := uX2
      haveI := lX2
      haveI : UpI w X2 := ⟨(upI : Up w W9).trans uX2.up⟩
      have hsz31 : (Tryz.prog.info? 45).map (·.size) = some (LL.map (Value.int .i64)).length := by rw [List.length_map, HL.out]; exact arrSize
      go_upto_region 58 with (first
        | ((with_reducible refine held ?_); refine H_load_mid rfl 45 _ rfl C9 0 rfl (LL.map (Value.int .i64)) _ R2.out Tryz.underlying45 rfl hsz31 ?_)
        | (go_at_call 11; (with_reducible refine (dcounts_all LL _ (g.up upI) HL.out HB.out).mono ?_); rintro e w' ⟨uc, Lc, er9, rfl, hown, hL31, x1, rfl⟩))
      have HO := Lib.hid hown
      have hnu : NilOk uc := NilOk.of_owns hown
      have hru : StrRow x1.w uc Lc := StrRow.of_owns hown
      refine wp_letter (fun X3 => UpI X2 X3 ∧ Hid (X3.ownsRow X2.heap.size 9 1 uc Lc.length (strCells Lc)) ∧ StrRow X3 uc Lc) ⟨inferInstance, HO, hru⟩ ?_
      clear HO hown hru x1
      rintro X3 ⟨u3, HO, hru⟩
      haveI := u3
      haveI : UpI w X3 := ⟨(upI : Up w X2).trans u3.up⟩
      obtain ⟨i0, hi, hy0, hy1, hy2⟩ := info_parts infoStr
      have hf1 : (strCells [[102, 108, 111, 119, 32, 49]]) = [Value.string ⟨#[102, 108, 111, 119, 32, 49]⟩] := rfl
      go_cut [284] (fun v wx => v = .bool false ∧ UpI X2 wx)
      case first =>
        refine wp_region_heldN (fun W => Up X2 W) (by kernel_rfl) ?_
        generalize hq0 : World.drew X3 = Y0
        haveI : UpI X3 Y0 := ⟨hq0 ▸ (Up.refl X3).drew⟩
        haveI : UpI X2 Y0 := ⟨u3.up.trans (upI : Up X3 Y0)⟩
        clear hq0
        haveI : UpI w Y0 := ⟨(upI : Up w X2).trans (upI : Up X2 Y0)⟩
        refine anyH_take (i := 0) rfl (by kernel_rfl) (by kernel_rfl) (by kernel_rfl) (upI : Up X2 Y0) (yieldsH_mid (by kernel_rfl) 45 _ rfl C9 0 rfl (LL.map (Value.int .i64)) _ (fun W h => rangeUp R2.out h) Tryz.underlying45 rfl hsz31) ?_
        (try simp only [Act.put, List.getElem_toArray, List.getElem_cons_succ, List.getElem_cons_zero, List.setIfInBounds_toArray, List.set_cons_succ, List.set_cons_zero])
        refine anyH_take (i := 1) (v := ?v1) rfl (by kernel_rfl) (by kernel_rfl) (by kernel_rfl) (upI : Up X2 Y0) (Or.inl ⟨by kernel_rfl, ?hy1⟩) ?rest1
        case hy1 => (intro w hw; go_simp; (try with_reducible rfl))
        (try simp only [Act.put, List.getElem_toArray, List.getElem_cons_succ, List.getElem_cons_zero, List.setIfInBounds_toArray, List.set_cons_succ, List.set_cons_zero])
        refine anyH_one (i := 2) (by kernel_rfl) ?_
        refine (stepH_call rfl (by kernel_rfl) 12 _ _ rfl #[.agg (LL.map (Value.int .i64)).toArray, uc] (by kernel_rfl) (fun w => by kernel_rfl) (.bool true) (C.co LL Lc uc _ (g.up (upI : Up w Y0)) HL.out HB.out (strUp hru) hnu) (fun x => (upI : Up X2 Y0).ext x) ?_)
        intro y1
        (try simp only [Act.put, List.getElem_toArray, List.getElem_cons_succ, List.getElem_cons_zero, List.setIfInBounds_toArray, List.set_cons_succ, List.set_cons_zero])
        haveI : UpI w y1.w := ⟨(upI : Up w X2).trans (upI : Up X2 y1.w)⟩
        refine anyH_take (i := 3) (v := ?v2) rfl (by kernel_rfl) (by kernel_rfl) (by kernel_rfl) (upI : Up X2 y1.w) (Or.inl ⟨by kernel_rfl, ?hy2⟩) ?rest2
        case hy2 => (intro w hw; go_simp; (try with_reducible rfl))
        (try simp only [Act.put, List.getElem_toArray, List.getElem_cons_succ, List.getElem_cons_zero, List.setIfInBounds_toArray, List.set_cons_succ, List.set_cons_zero])
        refine anyH_take (i := 4) (v := ?v3) rfl (by kernel_rfl) (by kernel_rfl) (by kernel_rfl) (upI : Up X2 y1.w) (Or.inl ⟨by kernel_rfl, ?hy3⟩) ?rest3
        case hy3 => (intro w hw; go_simp; (try with_reducible rfl))
        (try simp only [Act.put, List.getElem_toArray, List.getElem_cons_succ, List.getElem_cons_zero, List.setIfInBounds_toArray, List.set_cons_succ, List.set_cons_zero])
        refine anyH_take (i := 5) rfl (by kernel_rfl) (by kernel_rfl) (by kernel_rfl) (upI : Up X2 y1.w) (yieldsH_mid (by kernel_rfl) 45 _ rfl C9 0 rfl (LL.map (Value.int .i64)) _ (fun W h => rangeUp R2.out h) Tryz.underlying45 rfl hsz31) ?_
        (try simp only [Act.put, List.getElem_toArray, List.getElem_cons_succ, List.getElem_cons_zero, List.setIfInBounds_toArray, List.set_cons_succ, List.set_cons_zero])
        refine anyH_take (i := 6) (v := ?v4) rfl (by kernel_rfl) (by kernel_rfl) (by kernel_rfl) (upI : Up X2 y1.w) (Or.inl ⟨by kernel_rfl, ?hy4⟩) ?rest4
        case hy4 => (intro w hw; go_simp; (try with_reducible rfl))
        (try simp only [Act.put, List.getElem_toArray, List.getElem_cons_succ, List.getElem_cons_zero, List.setIfInBounds_toArray, List.set_cons_succ, List.set_cons_zero])
        haveI : UpI X3 y1.w := ⟨(upI : Up X3 Y0).trans y1.up⟩
        refine anyH_one (i := 7) (by kernel_rfl) ?_
        refine (stepH_run rfl (by kernel_rfl) (.slice (some ⟨(y1.w).heap.size, 0, none⟩) 1 1) (World.alloc y1.w (.cells (strCells [[102, 108, 111, 119, 32, 49]]).toArray 9)) (by kernel_rfl) ((upI : Up X2 y1.w).alloc _) ?_)
        (try simp only [Act.put, List.getElem_toArray, List.getElem_cons_succ, List.getElem_cons_zero, List.setIfInBounds_toArray, List.set_cons_succ, List.set_cons_zero])
        have hr2 := Lib.hid (str_lit y1.w 9 [[102, 108, 111, 119, 32, 49]] (by decide))
        generalize hz : World.alloc y1.w _ = Y2 at hr2 ⊢
        haveI : UpI y1.w Y2 := ⟨hz ▸ (Up.refl y1.w).alloc _⟩
        clear hz
        haveI : UpI X2 Y2 := ⟨(upI : Up X2 y1.w).trans (upI : Up y1.w Y2)⟩
        haveI : UpI w Y2 := ⟨(upI : Up w X2).trans (upI : Up X2 Y2)⟩
        have hu2 : Y2.ownsRow X2.heap.size 9 1 uc Lc.length (strCells Lc) := owns_up HO.out ((upI : Up X3 y1.w).trans (upI : Up y1.w Y2))
        refine anyH_one (i := 8) (by kernel_rfl) ?_
        refine (stepH_appendS rfl (by kernel_rfl) _ _ 23 rfl X2.heap.size 9 i0 (.string ⟨#[]⟩) 16 Tryz.underlying23 hi hy0 hy1 hy2 rfl uc Lc rfl hu2 (.slice (some ⟨y1.w.heap.size, 0, none⟩) 1 1) [[102, 108, 111, 119, 32, 49]] rfl (StrRow.of_owns hr2.out) (by simp; unfold maxLen; omega) (by simp; omega) (upI : Up X2 Y2).size ?_)
        intro v3 Y3 hown' hgrow hold
        have uN : Up X2 Y3 := Up.grown (upI : Up X2 Y2) hgrow (fun k hk => Nat.le_trans (Nat.le_refl _) (owns_row hu2 k hk))
        refine ⟨uN, ?_⟩
        haveI : UpI X2 Y3 := ⟨uN⟩
        (try simp only [Act.put, List.getElem_toArray, List.getElem_cons_succ, List.getElem_cons_zero, List.setIfInBounds_toArray, List.set_cons_succ, List.set_cons_zero])
        haveI : UpI w Y3 := ⟨(upI : Up w X2).trans (upI : Up X2 Y3)⟩
        have hr3 : StrRow Y3 v3 (Lc ++ [[102, 108, 111, 119, 32, 49]]) := StrRow.of_owns hown'
        have hn3 : NilOk v3 := NilOk.of_owns hown'
        have hru3 := hold
        clear hold hgrow hown' uN hu2 hr2
        refine anyH_one (i := 9) (by kernel_rfl) ?_
        refine (stepH_call rfl (by kernel_rfl) 12 _ _ rfl #[.agg (LL.map (Value.int .i64)).toArray, v3] (by kernel_rfl) (fun w => by kernel_rfl) (.bool true) (C.co LL (Lc ++ [[102, 108, 111, 119, 32, 49]]) v3 _ (g.up (upI : Up w Y3)) HL.out HB.out hr3 hn3) (fun x => (upI : Up X2 Y3).ext x) ?_)
        intro y4
        (try simp only [Act.put, List.getElem_toArray, List.getElem_cons_succ, List.getElem_cons_zero, List.setIfInBounds_toArray, List.set_cons_succ, List.set_cons_zero])
        haveI : UpI w y4.w := ⟨(upI : Up w X2).trans (upI : Up X2 y4.w)⟩
        refine anyH_take (i := 10) (v := ?v5) rfl (by kernel_rfl) (by kernel_rfl) (by kernel_rfl) (upI : Up X2 y4.w) (Or.inl ⟨by kernel_rfl, ?hy5⟩) ?rest5
        case hy5 => (intro w hw; go_simp; (try with_reducible rfl))
        (try simp only [Act.put, List.getElem_toArray, List.getElem_cons_succ, List.getElem_cons_zero, List.setIfInBounds_toArray, List.set_cons_succ, List.set_cons_zero])
        refine anyH_take (i := 11) (v := ?v6) rfl (by kernel_rfl) (by kernel_rfl) (by kernel_rfl) (upI : Up X2 y4.w) (Or.inl ⟨by kernel_rfl, ?hy6⟩) ?rest6
        case hy6 => (intro w hw; go_simp; (try with_reducible rfl))
        (try simp only [Act.put, List.getElem_toArray, List.getElem_cons_succ, List.getElem_cons_zero, List.setIfInBounds_toArray, List.set_cons_succ, List.set_cons_zero])
        refine anyH_take (i := 12) (v := ?v7) rfl (by kernel_rfl) (by kernel_rfl) (by kernel_rfl) (upI : Up X2 y4.w) (Or.inl ⟨by kernel_rfl, ?hy7⟩) ?rest7
        case hy7 => (intro w hw; go_simp; (try with_reducible rfl))
        (try simp only [Act.put, List.getElem_toArray, List.getElem_cons_succ, List.getElem_cons_zero, List.setIfInBounds_toArray, List.set_cons_succ, List.set_cons_zero])
        refine anyH_take (i := 13) rfl (by kernel_rfl) (by kernel_rfl) (by kernel_rfl) (upI : Up X2 y4.w) (yieldsH_mid (by kernel_rfl) 45 _ rfl C9 0 rfl (LL.map (Value.int .i64)) _ (fun W h => rangeUp R2.out h) Tryz.underlying45 rfl hsz31) ?_
        (try simp only [Act.put, List.getElem_toArray, List.getElem_cons_succ, List.getElem_cons_zero, List.setIfInBounds_toArray, List.set_cons_succ, List.set_cons_zero])
        haveI : UpI Y3 y4.w := ⟨y4.up⟩
        refine anyH_take (i := 15) (v := ?v8) rfl (by kernel_rfl) (by kernel_rfl) (by kernel_rfl) (upI : Up X2 y4.w) (Or.inl ⟨by kernel_rfl, ?hy8⟩) ?rest8
        case hy8 => (intro w hw; go_simp; (try with_reducible rfl))
        (try simp only [Act.put, List.getElem_toArray, List.getElem_cons_succ, List.getElem_cons_zero, List.setIfInBounds_toArray, List.set_cons_succ, List.set_cons_zero])
        refine anyH_one (i := 14) (by kernel_rfl) ?_
        refine (stepH_run rfl (by kernel_rfl) (.slice (some ⟨(y4.w).heap.size, 0, none⟩) 1 1) (World.alloc y4.w (.cells (strCells [[102, 108, 111, 119, 32, 48]]).toArray 9)) (by kernel_rfl) ((upI : Up X2 y4.w).alloc _) ?_)
        (try simp only [Act.put, List.getElem_toArray, List.getElem_cons_succ, List.getElem_cons_zero, List.setIfInBounds_toArray, List.set_cons_succ, List.set_cons_zero])
        have hr5 := Lib.hid (str_lit y4.w 9 [[102, 108, 111, 119, 32, 48]] (by decide))
        generalize hz : World.alloc y4.w _ = Y5 at hr5 ⊢
        haveI : UpI y4.w Y5 := ⟨hz ▸ (Up.refl y4.w).alloc _⟩
        clear hz
        haveI : UpI X2 Y5 := ⟨(upI : Up X2 y4.w).trans (upI : Up y4.w Y5)⟩
        haveI : UpI w Y5 := ⟨(upI : Up w X2).trans (upI : Up X2 Y5)⟩
        refine anyH_one (i := 16) (by kernel_rfl) ?_
        refine (stepH_appendS rfl (by kernel_rfl) _ _ 23 rfl y4.w.heap.size 9 i0 (.string ⟨#[]⟩) 16 Tryz.underlying23 hi hy0 hy1 hy2 rfl (.slice (some ⟨y4.w.heap.size, 0, none⟩) 1 1) [[102, 108, 111, 119, 32, 48]] rfl hr5.out uc Lc rfl (RowOf.up hru3 ((upI : Up Y3 y4.w).trans (upI : Up y4.w Y5))) (by simp; unfold maxLen; omega) (by simp; omega) (upI : Up y4.w Y5).size ?_)
        intro v6 Y6 hown' hgrow hold
        have uN : Up X2 Y6 := Up.grown (upI : Up X2 Y5) hgrow (fun k hk => Nat.le_trans (upI : Up X2 y4.w).size (owns_row hr5.out k hk))
        refine ⟨uN, ?_⟩
        haveI : UpI X2 Y6 := ⟨uN⟩
        (try simp only [Act.put, List.getElem_toArray, List.getElem_cons_succ, List.getElem_cons_zero, List.setIfInBounds_toArray, List.set_cons_succ, List.set_cons_zero])
        haveI : UpI w Y6 := ⟨(upI : Up w X2).trans (upI : Up X2 Y6)⟩
        have hr6 : StrRow Y6 v6 ([[102, 108, 111, 119, 32, 48]] ++ Lc) := StrRow.of_owns hown'
        have hn6 : NilOk v6 := NilOk.of_owns hown'
        clear hold hgrow hown' uN hr5
        refine anyH_one (i := 17) (by kernel_rfl) ?_
        refine (stepH_call rfl (by kernel_rfl) 12 _ _ rfl #[.agg (LL.map (Value.int .i64)).toArray, v6] (by kernel_rfl) (fun w => by kernel_rfl) (.bool true) (C.co LL ([[102, 108, 111, 119, 32, 48]] ++ Lc) v6 _ (g.up (upI : Up w Y6)) HL.out HB.out hr6 hn6) (fun x => (upI : Up X2 Y6).ext x) ?_)
        intro y7
        (try simp only [Act.put, List.getElem_toArray, List.getElem_cons_succ, List.getElem_cons_zero, List.setIfInBounds_toArray, List.set_cons_succ, List.set_cons_zero])
        haveI : UpI w y7.w := ⟨(upI : Up w X2).trans (upI : Up X2 y7.w)⟩
        refine anyH_take (i := 18) (v := ?v9) rfl (by kernel_rfl) (by kernel_rfl) (by kernel_rfl) (upI : Up X2 y7.w) (Or.inl ⟨by kernel_rfl, ?hy9⟩) ?rest9
        case hy9 => (intro w hw; go_simp; (try with_reducible rfl))
        (try simp only [Act.put, List.getElem_toArray, List.getElem_cons_succ, List.getElem_cons_zero, List.setIfInBounds_toArray, List.set_cons_succ, List.set_cons_zero])
        refine anyH_take (i := 19) (v := ?v10) rfl (by kernel_rfl) (by kernel_rfl) (by kernel_rfl) (upI : Up X2 y7.w) (Or.inl ⟨by kernel_rfl, ?hy10⟩) ?rest10
        case hy10 => (intro w hw; go_simp; (try with_reducible rfl))
        (try simp only [Act.put, List.getElem_toArray, List.getElem_cons_succ, List.getElem_cons_zero, List.setIfInBounds_toArray, List.set_cons_succ, List.set_cons_zero])
        refine anyH_take (i := 20) (v := ?v11) rfl (by kernel_rfl) (by kernel_rfl) (by kernel_rfl) (upI : Up X2 y7.w) (Or.inl ⟨by kernel_rfl, ?hy11⟩) ?rest11
        case hy11 => (intro w hw; go_simp; (try with_reducible rfl))
        (try simp only [Act.put, List.getElem_toArray, List.getElem_cons_succ, List.getElem_cons_zero, List.setIfInBounds_toArray, List.set_cons_succ, List.set_cons_zero])
        refine anyH_take (i := 21) rfl (by kernel_rfl) (by kernel_rfl) (by kernel_rfl) (upI : Up X2 y7.w) (yieldsH_mid (by kernel_rfl) 45 _ rfl C9 0 rfl (LL.map (Value.int .i64)) _ (fun W h => rangeUp R2.out h) Tryz.underlying45 rfl hsz31) ?_
        (try simp only [Act.put, List.getElem_toArray, List.getElem_cons_succ, List.getElem_cons_zero, List.setIfInBounds_toArray, List.set_cons_succ, List.set_cons_zero])
        refine anyH_one (i := 22) (by kernel_rfl) ?_
        refine (stepH_run rfl (by kernel_rfl) (.slice (some ⟨(y7.w).heap.size, 0, none⟩) 2 2) (World.alloc y7.w (.cells (strCells [[102, 108, 111, 119, 32, 48, 49], [120, 32, 49]]).toArray 9)) (by kernel_rfl) ((upI : Up X2 y7.w).alloc _) ?_)
        (try simp only [Act.put, List.getElem_toArray, List.getElem_cons_succ, List.getElem_cons_zero, List.setIfInBounds_toArray, List.set_cons_succ, List.set_cons_zero])
        have hr8 := Lib.hid (str_lit y7.w 9 [[102, 108, 111, 119, 32, 48, 49], [120, 32, 49]] (by decide))
        generalize hz : World.alloc y7.w _ = Y8 at hr8 ⊢
        haveI : UpI y7.w Y8 := ⟨hz ▸ (Up.refl y7.w).alloc _⟩
        clear hz
        haveI : UpI X2 Y8 := ⟨(upI : Up X2 y7.w).trans (upI : Up y7.w Y8)⟩
        haveI : UpI w Y8 := ⟨(upI : Up w X2).trans (upI : Up X2 Y8)⟩
        refine anyH_one (i := 23) (by kernel_rfl) ?_
        refine (stepH_call rfl (by kernel_rfl) 12 _ _ rfl #[.agg (LL.map (Value.int .i64)).toArray, (.slice (some ⟨y7.w.heap.size, 0, none⟩) 2 2)] (by kernel_rfl) (fun w => by kernel_rfl) (.bool true) (C.co LL [[102, 108, 111, 119, 32, 48, 49], [120, 32, 49]] (.slice (some ⟨y7.w.heap.size, 0, none⟩) 2 2) _ (g.up (upI : Up w Y8)) HL.out HB.out (StrRow.of_owns hr8.out) (nilSome _ _ _)) (fun x => (upI : Up X2 Y8).ext x) ?_)
        intro y9
        (try simp only [Act.put, List.getElem_toArray, List.getElem_cons_succ, List.getElem_cons_zero, List.setIfInBounds_toArray, List.set_cons_succ, List.set_cons_zero])
        haveI : UpI w y9.w := ⟨(upI : Up w X2).trans (upI : Up X2 y9.w)⟩
        refine anyH_take (i := 24) (v := ?v12) rfl (by kernel_rfl) (by kernel_rfl) (by kernel_rfl) (upI : Up X2 y9.w) (Or.inl ⟨by kernel_rfl, ?hy12⟩) ?rest12
        case hy12 => (intro w hw; go_simp; (try with_reducible rfl))
        (try simp only [Act.put, List.getElem_toArray, List.getElem_cons_succ, List.getElem_cons_zero, List.setIfInBounds_toArray, List.set_cons_succ, List.set_cons_zero])
        refine anyH_take (i := 25) (v := ?v13) rfl (by kernel_rfl) (by kernel_rfl) (by kernel_rfl) (upI : Up X2 y9.w) (Or.inl ⟨by kernel_rfl, ?hy13⟩) ?rest13
        case hy13 => (intro w hw; go_simp; (try with_reducible rfl))
        (try simp only [Act.put, List.getElem_toArray, List.getElem_cons_succ, List.getElem_cons_zero, List.setIfInBounds_toArray, List.set_cons_succ, List.set_cons_zero])
        refine wpAnyH_done (by kernel_rfl) ?_ _
        refine ⟨rfl, ?_⟩
        go_wp2_with fail
        go_meet
        exact ⟨rfl, inferInstance⟩
      case rest =>
        obtain ⟨rfl, uc⟩ := hcut
        haveI := uc
        go_wp2_with fail
        go_roundw
        case rel => exact ⟨rfl, i9 + 1, by omega, by go_num, ⟨(upI : Up W9 X2).trans uc.up⟩⟩
        case measure => simp [intOf] <;> omega
    · have hge9 : ¬ (i9 : Int) < 31 := by omega
      clear hl9 hi9
      haveI : UpI V wr := ⟨u9.up.trans u9w.up⟩
      go_upto_region 62 with (first
        | ((with_reducible refine held ?_); refine H_buildRun rfl 56 _ rfl #[(0, .int .u8 2), (1, .int .u8 1)] (by kernel_rfl) _ _ (build_phO _) ?_)
        | ((with_reducible refine held ?_); refine H_buildRun rfl 58 _ rfl #[(2, .agg phO.arr), (1, .int .u8 2)] (by kernel_rfl) _ _ (build_flO _) ?_)
        | (go_at_call 13; (with_reducible refine (dofO _).mono ?_); rintro e w' ⟨rfl, z1, rfl⟩)
        | ((with_reducible refine held ?_); refine H_store_row rfl 31 _ _ rfl _ Ln.zero.cells.toArray rfl rfl 31 _ (alloc_new rfl) lnSize rfl (ln_all Ln.zero) ?_))
      refine wp_letter (fun W10 => UpI V W10) ⟨(upI : Up V wr).trans (by first | exact upI | exact (UpI.row rfl _))⟩ ?_
      intro X2 uX2
      haveI := uX2
      haveI : UpI w X2 := ⟨uV.up.trans uX2.up⟩
      have hH := HV.up uX2.up
      obtain ⟨l0, rfl⟩ : ∃ l : List UInt8, sa = ⟨l.toArray⟩ := ⟨sa.data.toList, by cases sa; simp⟩
      obtain ⟨l1, rfl⟩ : ∃ l : List UInt8, sb = ⟨l.toArray⟩ := ⟨sb.data.toList, by cases sb; simp⟩
      have hcA := hH.ca
      have hs0 := hH.s0
      have hs1 := hH.s1
      have hRa := hH.ra
      have hRb := hH.rb
      haveI : LtSize A X2 := ⟨hH.la0⟩
      haveI : LtSize p X2 := ⟨hH.lp0⟩
      haveI : LtSize q X2 := ⟨hH.lq0⟩
      obtain ⟨i0, hi, hy0, hy1, hy2⟩ := info_parts infoStr
      have bab : ∀ x ∈ [lb, la], LnB x := by intro x hx; simp at hx; rcases hx with rfl | rfl <;> assumption
      have baa : ∀ x ∈ [la, lb], LnB x := by intro x hx; simp at hx; rcases hx with rfl | rfl <;> assumption
      have hRow : ∀ W, Up X2 W → LnRow W (.slice (some ⟨p, 0, none⟩) 2 2) [la, lb] := fun W u => lnRow_two (rangeUp hRa u) (rangeUp hRb u) (Nat.lt_of_lt_of_le hH.lp0 u.size)
      clear hH
      refine wp_region_heldN (fun W => Up X2 W) (by kernel_rfl) ?_
      generalize hq0 : World.drew X2 = Y0
      haveI : UpI X2 Y0 := ⟨hq0 ▸ (Up.refl X2).drew⟩
      clear hq0
      haveI : UpI w Y0 := ⟨(upI : Up w X2).trans (upI : Up X2 Y0)⟩
      refine anyH_take (i := 0) (v := ?v101) rfl (by kernel_rfl) (by kernel_rfl) (by kernel_rfl) (upI : Up X2 Y0) (Or.inl ⟨by kernel_rfl, ?hy101⟩) ?rest101
      case hy101 => (intro w hw; go_simp; (try with_reducible rfl))
      (try simp only [Act.put, List.getElem_toArray, List.getElem_cons_succ, List.getElem_cons_zero, List.setIfInBounds_toArray, List.set_cons_succ, List.set_cons_zero])
      refine anyH_take (i := 1) (v := ?v102) rfl (by kernel_rfl) (by kernel_rfl) (by kernel_rfl) (upI : Up X2 Y0) (Or.inl ⟨by kernel_rfl, ?hy102⟩) ?rest102
      case hy102 => (intro w hw; go_simp; (try with_reducible rfl))
      (try simp only [Act.put, List.getElem_toArray, List.getElem_cons_succ, List.getElem_cons_zero, List.setIfInBounds_toArray, List.set_cons_succ, List.set_cons_zero])
      refine anyH_take (i := 2) (v := ?v103) rfl (by kernel_rfl) (by kernel_rfl) (by kernel_rfl) (upI : Up X2 Y0) (Or.inl ⟨by kernel_rfl, ?hy103⟩) ?rest103
      case hy103 => (intro w hw; go_simp; (try with_reducible rfl))
      (try simp only [Act.put, List.getElem_toArray, List.getElem_cons_succ, List.getElem_cons_zero, List.setIfInBounds_toArray, List.set_cons_succ, List.set_cons_zero])
      refine anyH_take (i := 3) (v := ?v104) rfl (by kernel_rfl) (by kernel_rfl) (by kernel_rfl) (upI : Up X2 Y0) (Or.inl ⟨by kernel_rfl, ?hy104⟩) ?rest104
      case hy104 => (intro w hw; have hx := (hw : Up X2 w).cell_some' hs0; go_simp; (try with_reducible rfl))
      (try simp only [Act.put, List.getElem_toArray, List.getElem_cons_succ, List.getElem_cons_zero, List.setIfInBounds_toArray, List.set_cons_succ, List.set_cons_zero])
      refine anyH_one (i := 4) (by kernel_rfl) ?_
      refine (stepH_run rfl (by kernel_rfl) (.slice (some ⟨(Y0).heap.size, 0, none⟩) 1 1) (World.alloc Y0 (.cells (strCells [l0]).toArray 9)) (by kernel_rfl) ((upI : Up X2 Y0).alloc _) ?_)
      have hr1 := Lib.hid (StrRow.of_owns (str_lit Y0 9 [l0] (by simp; decide)))
      (try simp only [Act.put, List.getElem_toArray, List.getElem_cons_succ, List.getElem_cons_zero, List.setIfInBounds_toArray, List.set_cons_succ, List.set_cons_zero])
      generalize hz : World.alloc Y0 _ = Y1 at hr1 ⊢
      haveI : UpI Y0 Y1 := ⟨hz ▸ (Up.refl Y0).alloc _⟩
      clear hz
      haveI : UpI X2 Y1 := ⟨(upI : Up X2 Y0).trans (upI : Up Y0 Y1)⟩
      haveI : UpI w Y1 := ⟨(upI : Up w X2).trans (upI : Up X2 Y1)⟩
      refine anyH_one (i := 5) (by kernel_rfl) ?_
      refine (stepH_grows rfl (by kernel_rfl) _ _ 23 rfl 9 i0 (.string ⟨#[]⟩) 1 16 Tryz.underlying23 hi hy0 hy1 hy2 rfl (by decide) ⟨q, 0, none⟩ 2 2 (strCells [l0, l1]) rfl rfl (fun j u hj => two_at ((upI : Up X2 Y1).cell_some' hs0) ((upI : Up X2 Y1).cell_some' hs1) j u hj) ⟨Y0.heap.size, 0, none⟩ 1 1 (strCells [l0]) rfl rfl (fun j u hj => strRow_cells hr1.out j u hj) (by decide) (by unfold maxLen; decide) (by decide) ?_)
      intro v2 Y2 hown' hgrow
      have uN : Up X2 Y2 := Up.grown (upI : Up X2 Y1) hgrow (fun k hk => by cases hk)
      refine ⟨uN, ?_⟩
      haveI : UpI X2 Y2 := ⟨uN⟩
      (try simp only [Act.put, List.getElem_toArray, List.getElem_cons_succ, List.getElem_cons_zero, List.setIfInBounds_toArray, List.set_cons_succ, List.set_cons_zero])
      haveI : UpI w Y2 := ⟨(upI : Up w X2).trans (upI : Up X2 Y2)⟩
      have hr2 : StrRow Y2 v2 [l0, l1, l0] := StrRow.of_owns hown'
      have hn2 : NilOk v2 := NilOk.of_owns hown'
      clear hown' hgrow uN hr1
      refine anyH_one (i := 6) (by kernel_rfl) ?_
      refine (stepH_call rfl (by kernel_rfl) 9 _ _ rfl #[.slice none 0 0, .slice none 0 0, v2] (by kernel_rfl) (fun w => by kernel_rfl) (.bool true) (C.ls [] [] [l0, l1, l0] (.slice none 0 0) (.slice none 0 0) v2 _ (g.up (upI : Up w Y2)) (RowOf.nil _) (RowOf.nil _) hr2 nilNil nilNil hn2 (fun x h => by cases h) (fun x h => by cases h)) (fun x => (upI : Up X2 Y2).ext x) ?_)
      intro y3
      (try simp only [Act.put, List.getElem_toArray, List.getElem_cons_succ, List.getElem_cons_zero, List.setIfInBounds_toArray, List.set_cons_succ, List.set_cons_zero])
      haveI : UpI w y3.w := ⟨(upI : Up w X2).trans (upI : Up X2 y3.w)⟩
      refine anyH_take (i := 7) (v := ?v105) rfl (by kernel_rfl) (by kernel_rfl) (by kernel_rfl) (upI : Up X2 y3.w) (Or.inl ⟨by kernel_rfl, ?hy105⟩) ?rest105
      case hy105 => (intro w hw; go_simp; (try with_reducible rfl))
      (try simp only [Act.put, List.getElem_toArray, List.getElem_cons_succ, List.getElem_cons_zero, List.setIfInBounds_toArray, List.set_cons_succ, List.set_cons_zero])
      refine anyH_take (i := 8) (v := ?v106) rfl (by kernel_rfl) (by kernel_rfl) (by kernel_rfl) (upI : Up X2 y3.w) (Or.inl ⟨by kernel_rfl, ?hy106⟩) ?rest106
      case hy106 => (intro w hw; have hx := (hw : Up X2 w).cell_some' hcA; go_simp; (try with_reducible rfl))
      (try simp only [Act.put, List.getElem_toArray, List.getElem_cons_succ, List.getElem_cons_zero, List.setIfInBounds_toArray, List.set_cons_succ, List.set_cons_zero])
      refine anyH_take (i := 9) (v := ?v107) rfl (by kernel_rfl) (by kernel_rfl) (by kernel_rfl) (upI : Up X2 y3.w) (Or.inl ⟨by kernel_rfl, ?hy107⟩) ?rest107
      case hy107 => (intro w hw; have hx := (hw : Up X2 w).cell_some' hcA; go_simp; (try with_reducible rfl))
      (try simp only [Act.put, List.getElem_toArray, List.getElem_cons_succ, List.getElem_cons_zero, List.setIfInBounds_toArray, List.set_cons_succ, List.set_cons_zero])
      refine anyH_take (i := 10) (v := ?v108) rfl (by kernel_rfl) (by kernel_rfl) (by kernel_rfl) (upI : Up X2 y3.w) (Or.inl ⟨by kernel_rfl, ?hy108⟩) ?rest108
      case hy108 => (intro w hw; go_simp; (try with_reducible rfl))
      (try simp only [Act.put, List.getElem_toArray, List.getElem_cons_succ, List.getElem_cons_zero, List.setIfInBounds_toArray, List.set_cons_succ, List.set_cons_zero])
      refine anyH_take (i := 11) rfl (by kernel_rfl) (by kernel_rfl) (by kernel_rfl) (upI : Up X2 y3.w) (yieldsH_mid (by kernel_rfl) 31 _ rfl p 11 rfl lb.cells _ (fun W h => rangeUp hRb h) Tryz.underlying31 rfl lnSize) ?_
      (try simp only [Act.put, List.getElem_toArray, List.getElem_cons_succ, List.getElem_cons_zero, List.setIfInBounds_toArray, List.set_cons_succ, List.set_cons_zero])
      refine anyH_take (i := 12) (v := ?v109) rfl (by kernel_rfl) (by kernel_rfl) (by kernel_rfl) (upI : Up X2 y3.w) (Or.inl ⟨by kernel_rfl, ?hy109⟩) ?rest109
      case hy109 => (intro w hw; have hx := (hw : Up X2 w).cell_some' hcA; go_simp; (try with_reducible rfl))
      (try simp only [Act.put, List.getElem_toArray, List.getElem_cons_succ, List.getElem_cons_zero, List.setIfInBounds_toArray, List.set_cons_succ, List.set_cons_zero])
      refine anyH_take (i := 13) (v := ?v110) rfl (by kernel_rfl) (by kernel_rfl) (by kernel_rfl) (upI : Up X2 y3.w) (Or.inl ⟨by kernel_rfl, ?hy110⟩) ?rest110
      case hy110 => (intro w hw; go_simp; (try with_reducible rfl))
      (try simp only [Act.put, List.getElem_toArray, List.getElem_cons_succ, List.getElem_cons_zero, List.setIfInBounds_toArray, List.set_cons_succ, List.set_cons_zero])
      refine anyH_take (i := 14) rfl (by kernel_rfl) (by kernel_rfl) (by kernel_rfl) (upI : Up X2 y3.w) (yieldsH_mid (by kernel_rfl) 31 _ rfl p 0 rfl la.cells _ (fun W h => rangeUp hRa h) Tryz.underlying31 rfl lnSize) ?_
      (try simp only [Act.put, List.getElem_toArray, List.getElem_cons_succ, List.getElem_cons_zero, List.setIfInBounds_toArray, List.set_cons_succ, List.set_cons_zero])
      refine anyH_take (i := 16) (v := ?v111) rfl (by kernel_rfl) (by kernel_rfl) (by kernel_rfl) (upI : Up X2 y3.w) (Or.inl ⟨by kernel_rfl, ?hy111⟩) ?rest111
      case hy111 => (intro w hw; go_simp; (try with_reducible rfl))
      (try simp only [Act.put, List.getElem_toArray, List.getElem_cons_succ, List.getElem_cons_zero, List.setIfInBounds_toArray, List.set_cons_succ, List.set_cons_zero])
      refine anyH_take (i := 17) (v := ?v112) rfl (by kernel_rfl) (by kernel_rfl) (by kernel_rfl) (upI : Up X2 y3.w) (Or.inl ⟨by kernel_rfl, ?hy112⟩) ?rest112
      case hy112 => (intro w hw; go_simp; (try with_reducible rfl))
      (try simp only [Act.put, List.getElem_toArray, List.getElem_cons_succ, List.getElem_cons_zero, List.setIfInBounds_toArray, List.set_cons_succ, List.set_cons_zero])
      refine anyH_take (i := 18) (v := ?v113) rfl (by kernel_rfl) (by kernel_rfl) (by kernel_rfl) (upI : Up X2 y3.w) (Or.inl ⟨by kernel_rfl, ?hy113⟩) ?rest113
      case hy113 => (intro w hw; have hx := (hw : Up X2 w).cell_some' hs1; go_simp; (try with_reducible rfl))
      (try simp only [Act.put, List.getElem_toArray, List.getElem_cons_succ, List.getElem_cons_zero, List.setIfInBounds_toArray, List.set_cons_succ, List.set_cons_zero])
      refine anyH_take (i := 19) (v := ?v114) rfl (by kernel_rfl) (by kernel_rfl) (by kernel_rfl) (upI : Up X2 y3.w) (Or.inl ⟨by kernel_rfl, ?hy114⟩) ?rest114
      case hy114 => (intro w hw; go_simp; (try with_reducible rfl))
      (try simp only [Act.put, List.getElem_toArray, List.getElem_cons_succ, List.getElem_cons_zero, List.setIfInBounds_toArray, List.set_cons_succ, List.set_cons_zero])
      refine anyH_take (i := 20) (v := ?v115) rfl (by kernel_rfl) (by kernel_rfl) (by kernel_rfl) (upI : Up X2 y3.w) (Or.inl ⟨by kernel_rfl, ?hy115⟩) ?rest115
      case hy115 => (intro w hw; go_simp; (try with_reducible rfl))
      (try simp only [Act.put, List.getElem_toArray, List.getElem_cons_succ, List.getElem_cons_zero, List.setIfInBounds_toArray, List.set_cons_succ, List.set_cons_zero])
      refine anyH_take (i := 21) (v := ?v116) rfl (by kernel_rfl) (by kernel_rfl) (by kernel_rfl) (upI : Up X2 y3.w) (Or.inl ⟨by kernel_rfl, ?hy116⟩) ?rest116
      case hy116 => (intro w hw; have hx := (hw : Up X2 w).cell_some' hs0; go_simp; (try with_reducible rfl))
      (try simp only [Act.put, List.getElem_toArray, List.getElem_cons_succ, List.getElem_cons_zero, List.setIfInBounds_toArray, List.set_cons_succ, List.set_cons_zero])
      refine anyH_two (i := 15) (j := 22) (by kernel_rfl) ?_ ?_
      · skip
        refine (stepH_run rfl (by kernel_rfl) (.slice (some ⟨(y3.w).heap.size, 0, none⟩) 2 2) (World.alloc y3.w (.cells ([lb, la].flatMap Ln.cells).toArray 31)) (by kernel_rfl) ((upI : Up X2 y3.w).alloc _) ?_)
        have hl4 := Lib.hid (ln_lit2 y3.w 31 lb la)
        (try simp only [Act.put, List.getElem_toArray, List.getElem_cons_succ, List.getElem_cons_zero, List.setIfInBounds_toArray, List.set_cons_succ, List.set_cons_zero])
        generalize hz : World.alloc y3.w _ = Y4 at hl4 ⊢
        haveI : UpI y3.w Y4 := ⟨hz ▸ (Up.refl y3.w).alloc _⟩
        clear hz
        haveI : UpI X2 Y4 := ⟨(upI : Up X2 y3.w).trans (upI : Up y3.w Y4)⟩
        haveI : UpI w Y4 := ⟨(upI : Up w X2).trans (upI : Up X2 Y4)⟩
        refine anyH_one (i := 22) (by kernel_rfl) ?_
        refine (stepH_run rfl (by kernel_rfl) (.slice (some ⟨(Y4).heap.size, 0, none⟩) 2 2) (World.alloc Y4 (.cells (strCells [l1, l0]).toArray 9)) (by kernel_rfl) ((upI : Up X2 Y4).alloc _) ?_)
        have hs5 := Lib.hid (StrRow.of_owns (str_lit Y4 9 [l1, l0] (by simp; decide)))
        (try simp only [Act.put, List.getElem_toArray, List.getElem_cons_succ, List.getElem_cons_zero, List.setIfInBounds_toArray, List.set_cons_succ, List.set_cons_zero])
        generalize hz : World.alloc Y4 _ = Y5 at hs5 ⊢
        haveI : UpI Y4 Y5 := ⟨hz ▸ (Up.refl Y4).alloc _⟩
        clear hz
        haveI : UpI X2 Y5 := ⟨(upI : Up X2 Y4).trans (upI : Up Y4 Y5)⟩
        haveI : UpI w Y5 := ⟨(upI : Up w X2).trans (upI : Up X2 Y5)⟩
        refine anyH_one (i := 23) (by kernel_rfl) ?_
        refine (stepH_call rfl (by kernel_rfl) 9 _ _ rfl #[.slice (some ⟨p, 0, none⟩) 2 2, .slice (some ⟨(y3.w).heap.size, 0, none⟩) 2 2, .slice (some ⟨(Y4).heap.size, 0, none⟩) 2 2] (by kernel_rfl) (fun w => by kernel_rfl) (.bool true) (C.ls [la, lb] [lb, la] [l1, l0] (.slice (some ⟨p, 0, none⟩) 2 2) (.slice (some ⟨(y3.w).heap.size, 0, none⟩) 2 2) (.slice (some ⟨(Y4).heap.size, 0, none⟩) 2 2) _ (g.up (upI : Up w Y5)) (hRow Y5 upI) (RowOf.up hl4.out (upI : Up Y4 Y5)) hs5.out (nilSome _ _ _) (nilSome _ _ _) (nilSome _ _ _) baa bab) (fun x => (upI : Up X2 Y5).ext x) ?_)
        intro y6
        (try simp only [Act.put, List.getElem_toArray, List.getElem_cons_succ, List.getElem_cons_zero, List.setIfInBounds_toArray, List.set_cons_succ, List.set_cons_zero])
        haveI : UpI w y6.w := ⟨(upI : Up w X2).trans (upI : Up X2 y6.w)⟩
        refine anyH_take (i := 24) (v := ?v117) rfl (by kernel_rfl) (by kernel_rfl) (by kernel_rfl) (upI : Up X2 y6.w) (Or.inl ⟨by kernel_rfl, ?hy117⟩) ?rest117
        case hy117 => (intro w hw; go_simp; (try with_reducible rfl))
        (try simp only [Act.put, List.getElem_toArray, List.getElem_cons_succ, List.getElem_cons_zero, List.setIfInBounds_toArray, List.set_cons_succ, List.set_cons_zero])
        refine anyH_take (i := 25) (v := ?v118) rfl (by kernel_rfl) (by kernel_rfl) (by kernel_rfl) (upI : Up X2 y6.w) (Or.inl ⟨by kernel_rfl, ?hy118⟩) ?rest118
        case hy118 => (intro w hw; go_simp; (try with_reducible rfl))
        (try simp only [Act.put, List.getElem_toArray, List.getElem_cons_succ, List.getElem_cons_zero, List.setIfInBounds_toArray, List.set_cons_succ, List.set_cons_zero])
        refine anyH_take (i := 26) (v := ?v119) rfl (by kernel_rfl) (by kernel_rfl) (by kernel_rfl) (upI : Up X2 y6.w) (Or.inl ⟨by kernel_rfl, ?hy119⟩) ?rest119
        case hy119 => (intro w hw; go_simp; (try with_reducible rfl))
        (try simp only [Act.put, List.getElem_toArray, List.getElem_cons_succ, List.getElem_cons_zero, List.setIfInBounds_toArray, List.set_cons_succ, List.set_cons_zero])
        refine anyH_take (i := 27) (v := ?v120) rfl (by kernel_rfl) (by kernel_rfl) (by kernel_rfl) (upI : Up X2 y6.w) (Or.inl ⟨by kernel_rfl, ?hy120⟩) ?rest120
        case hy120 => (intro w hw; go_simp; (try with_reducible rfl))
        (try simp only [Act.put, List.getElem_toArray, List.getElem_cons_succ, List.getElem_cons_zero, List.setIfInBounds_toArray, List.set_cons_succ, List.set_cons_zero])
        refine anyH_take (i := 28) (v := ?v121) rfl (by kernel_rfl) (by kernel_rfl) (by kernel_rfl) (upI : Up X2 y6.w) (Or.inl ⟨by kernel_rfl, ?hy121⟩) ?rest121
        case hy121 => (intro w hw; go_simp; (try with_reducible rfl))
        (try simp only [Act.put, List.getElem_toArray, List.getElem_cons_succ, List.getElem_cons_zero, List.setIfInBounds_toArray, List.set_cons_succ, List.set_cons_zero])
        refine anyH_take (i := 29) (v := ?v122) rfl (by kernel_rfl) (by kernel_rfl) (by kernel_rfl) (upI : Up X2 y6.w) (Or.inl ⟨by kernel_rfl, ?hy122⟩) ?rest122
        case hy122 => (intro w hw; go_simp; (try with_reducible rfl))
        (try simp only [Act.put, List.getElem_toArray, List.getElem_cons_succ, List.getElem_cons_zero, List.setIfInBounds_toArray, List.set_cons_succ, List.set_cons_zero])
        refine anyH_one (i := 30) (by kernel_rfl) ?_
        refine (stepH_call rfl (by kernel_rfl) 14 _ _ rfl #[] (by kernel_rfl) (fun w => by kernel_rfl) (.bool true) (dawake_any _ (g.up (upI : Up w y6.w))) (fun x => (upI : Up X2 y6.w).ext x) ?_)
        intro y7
        (try simp only [Act.put, List.getElem_toArray, List.getElem_cons_succ, List.getElem_cons_zero, List.setIfInBounds_toArray, List.set_cons_succ, List.set_cons_zero])
        haveI : UpI w y7.w := ⟨(upI : Up w X2).trans (upI : Up X2 y7.w)⟩
        refine anyH_take (i := 31) (v := ?v123) rfl (by kernel_rfl) (by kernel_rfl) (by kernel_rfl) (upI : Up X2 y7.w) (Or.inl ⟨by kernel_rfl, ?hy123⟩) ?rest123
        case hy123 => (intro w hw; go_simp; (try with_reducible rfl))
        (try simp only [Act.put, List.getElem_toArray, List.getElem_cons_succ, List.getElem_cons_zero, List.setIfInBounds_toArray, List.set_cons_succ, List.set_cons_zero])
        refine anyH_take (i := 32) (v := ?v124) rfl (by kernel_rfl) (by kernel_rfl) (by kernel_rfl) (upI : Up X2 y7.w) (Or.inl ⟨by kernel_rfl, ?hy124⟩) ?rest124
        case hy124 => (intro w hw; go_simp; (try with_reducible rfl))
        (try simp only [Act.put, List.getElem_toArray, List.getElem_cons_succ, List.getElem_cons_zero, List.setIfInBounds_toArray, List.set_cons_succ, List.set_cons_zero])
        refine wpAnyH_done (by kernel_rfl) ?_ _
        refine ⟨rfl, ?_⟩
        go_wp2_with fail
        go_ret
        exact ⟨rfl, mkI⟩
      · skip
        refine (stepH_run rfl (by kernel_rfl) (.slice (some ⟨(y3.w).heap.size, 0, none⟩) 2 2) (World.alloc y3.w (.cells (strCells [l1, l0]).toArray 9)) (by kernel_rfl) ((upI : Up X2 y3.w).alloc _) ?_)
        have hs5 := Lib.hid (StrRow.of_owns (str_lit y3.w 9 [l1, l0] (by simp; decide)))
        (try simp only [Act.put, List.getElem_toArray, List.getElem_cons_succ, List.getElem_cons_zero, List.setIfInBounds_toArray, List.set_cons_succ, List.set_cons_zero])
        generalize hz : World.alloc y3.w _ = Y4 at hs5 ⊢
        haveI : UpI y3.w Y4 := ⟨hz ▸ (Up.refl y3.w).alloc _⟩
        clear hz
        haveI : UpI X2 Y4 := ⟨(upI : Up X2 y3.w).trans (upI : Up y3.w Y4)⟩
        haveI : UpI w Y4 := ⟨(upI : Up w X2).trans (upI : Up X2 Y4)⟩
        refine anyH_one (i := 15) (by kernel_rfl) ?_
        refine (stepH_run rfl (by kernel_rfl) (.slice (some ⟨(Y4).heap.size, 0, none⟩) 2 2) (World.alloc Y4 (.cells ([lb, la].flatMap Ln.cells).toArray 31)) (by kernel_rfl) ((upI : Up X2 Y4).alloc _) ?_)
        have hl4 := Lib.hid (ln_lit2 Y4 31 lb la)
        (try simp only [Act.put, List.getElem_toArray, List.getElem_cons_succ, List.getElem_cons_zero, List.setIfInBounds_toArray, List.set_cons_succ, List.set_cons_zero])
        generalize hz : World.alloc Y4 _ = Y5 at hl4 ⊢
        haveI : UpI Y4 Y5 := ⟨hz ▸ (Up.refl Y4).alloc _⟩
        clear hz
        haveI : UpI X2 Y5 := ⟨(upI : Up X2 Y4).trans (upI : Up Y4 Y5)⟩
        haveI : UpI w Y5 := ⟨(upI : Up w X2).trans (upI : Up X2 Y5)⟩
        refine anyH_one (i := 23) (by kernel_rfl) ?_
        refine (stepH_call rfl (by kernel_rfl) 9 _ _ rfl #[.slice (some ⟨p, 0, none⟩) 2 2, .slice (some ⟨(Y4).heap.size, 0, none⟩) 2 2, .slice (some ⟨(y3.w).heap.size, 0, none⟩) 2 2] (by kernel_rfl) (fun w => by kernel_rfl) (.bool true) (C.ls [la, lb] [lb, la] [l1, l0] (.slice (some ⟨p, 0, none⟩) 2 2) (.slice (some ⟨(Y4).heap.size, 0, none⟩) 2 2) (.slice (some ⟨(y3.w).heap.size, 0, none⟩) 2 2) _ (g.up (upI : Up w Y5)) (hRow Y5 upI) hl4.out (RowOf.up hs5.out (upI : Up Y4 Y5)) (nilSome _ _ _) (nilSome _ _ _) (nilSome _ _ _) baa bab) (fun x => (upI : Up X2 Y5).ext x) ?_)
        intro y6
        (try simp only [Act.put, List.getElem_toArray, List.getElem_cons_succ, List.getElem_cons_zero, List.setIfInBounds_toArray, List.set_cons_succ, List.set_cons_zero])
        haveI : UpI w y6.w := ⟨(upI : Up w X2).trans (upI : Up X2 y6.w)⟩
        refine anyH_take (i := 24) (v := ?v125) rfl (by kernel_rfl) (by kernel_rfl) (by kernel_rfl) (upI : Up X2 y6.w) (Or.inl ⟨by kernel_rfl, ?hy125⟩) ?rest125
        case hy125 => (intro w hw; go_simp; (try with_reducible rfl))
        (try simp only [Act.put, List.getElem_toArray, List.getElem_cons_succ, List.getElem_cons_zero, List.setIfInBounds_toArray, List.set_cons_succ, List.set_cons_zero])
        refine anyH_take (i := 25) (v := ?v126) rfl (by kernel_rfl) (by kernel_rfl) (by kernel_rfl) (upI : Up X2 y6.w) (Or.inl ⟨by kernel_rfl, ?hy126⟩) ?rest126
        case hy126 => (intro w hw; go_simp; (try with_reducible rfl))
        (try simp only [Act.put, List.getElem_toArray, List.getElem_cons_succ, List.getElem_cons_zero, List.setIfInBounds_toArray, List.set_cons_succ, List.set_cons_zero])
        refine anyH_take (i := 26) (v := ?v127) rfl (by kernel_rfl) (by kernel_rfl) (by kernel_rfl) (upI : Up X2 y6.w) (Or.inl ⟨by kernel_rfl, ?hy127⟩) ?rest127
        case hy127 => (intro w hw; go_simp; (try with_reducible rfl))
        (try simp only [Act.put, List.getElem_toArray, List.getElem_cons_succ, List.getElem_cons_zero, List.setIfInBounds_toArray, List.set_cons_succ, List.set_cons_zero])
        refine anyH_take (i := 27) (v := ?v128) rfl (by kernel_rfl) (by kernel_rfl) (by kernel_rfl) (upI : Up X2 y6.w) (Or.inl ⟨by kernel_rfl, ?hy128⟩) ?rest128
        case hy128 => (intro w hw; go_simp; (try with_reducible rfl))
        (try simp only [Act.put, List.getElem_toArray, List.getElem_cons_succ, List.getElem_cons_zero, List.setIfInBounds_toArray, List.set_cons_succ, List.set_cons_zero])
        refine anyH_take (i := 28) (v := ?v129) rfl (by kernel_rfl) (by kernel_rfl) (by kernel_rfl) (upI : Up X2 y6.w) (Or.inl ⟨by kernel_rfl, ?hy129⟩) ?rest129
        case hy129 => (intro w hw; go_simp; (try with_reducible rfl))
        (try simp only [Act.put, List.getElem_toArray, List.getElem_cons_succ, List.getElem_cons_zero, List.setIfInBounds_toArray, List.set_cons_succ, List.set_cons_zero])
        refine anyH_take (i := 29) (v := ?v130) rfl (by kernel_rfl) (by kernel_rfl) (by kernel_rfl) (upI : Up X2 y6.w) (Or.inl ⟨by kernel_rfl, ?hy130⟩) ?rest130
        case hy130 => (intro w hw; go_simp; (try with_reducible rfl))
        (try simp only [Act.put, List.getElem_toArray, List.getElem_cons_succ, List.getElem_cons_zero, List.setIfInBounds_toArray, List.set_cons_succ, List.set_cons_zero])
        refine anyH_one (i := 30) (by kernel_rfl) ?_
        refine (stepH_call rfl (by kernel_rfl) 14 _ _ rfl #[] (by kernel_rfl) (fun w => by kernel_rfl) (.bool true) (dawake_any _ (g.up (upI : Up w y6.w))) (fun x => (upI : Up X2 y6.w).ext x) ?_)
        intro y7
        (try simp only [Act.put, List.getElem_toArray, List.getElem_cons_succ, List.getElem_cons_zero, List.setIfInBounds_toArray, List.set_cons_succ, List.set_cons_zero])
        haveI : UpI w y7.w := ⟨(upI : Up w X2).trans (upI : Up X2 y7.w)⟩
        refine anyH_take (i := 31) (v := ?v131) rfl (by kernel_rfl) (by kernel_rfl) (by kernel_rfl) (upI : Up X2 y7.w) (Or.inl ⟨by kernel_rfl, ?hy131⟩) ?rest131
        case hy131 => (intro w hw; go_simp; (try with_reducible rfl))
        (try simp only [Act.put, List.getElem_toArray, List.getElem_cons_succ, List.getElem_cons_zero, List.setIfInBounds_toArray, List.set_cons_succ, List.set_cons_zero])
        refine anyH_take (i := 32) (v := ?v132) rfl (by kernel_rfl) (by kernel_rfl) (by kernel_rfl) (upI : Up X2 y7.w) (Or.inl ⟨by kernel_rfl, ?hy132⟩) ?rest132
        case hy132 => (intro w hw; go_simp; (try with_reducible rfl))
        (try simp only [Act.put, List.getElem_toArray, List.getElem_cons_succ, List.getElem_cons_zero, List.setIfInBounds_toArray, List.set_cons_succ, List.set_cons_zero])
        refine wpAnyH_done (by kernel_rfl) ?_ _
        refine ⟨rfl, ?_⟩
        go_wp2_with fail
        go_ret
        exact ⟨rfl, mkI⟩
theorem dsmall_any (C : SmC) (w : World) (g : GoodD w) : Gives Tryz.prog 3 #[] w (.bool true) := dsPart0.2 ⟨dsPart1.2 ⟨dsRest⟩⟩ C w g
end Go.Proofs.YtlbbepgfjigjpaaGreatDoor
