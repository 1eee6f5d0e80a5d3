/- Plain laws of SpanSmall's end: many spans, one more, and a text of too many parts. SpanSmall: the rows of many spans, and what Of and Union make of them. -/
import Derived.Test.YtgfkcbflnkpogaaGreatDoorSrd
import Derived.Test.YtgfkcbflnkpogaaGreatDoorSp12
import Derived.Lib.Repeat
import Derived.Test.YtgfkcbflnkpogaaGreatDoorShelf3
import Derived.Test.YtgfkcbflnkpogaaGreatDoorSo3
set_option linter.unusedSimpArgs false
set_option linter.unusedVariables false
namespace Go.Ab
open Go.RowKit
def manyP (i : Nat) : Sp := (2 * (i : Int), 2 * (i : Int))
def manyF (m : Nat) : Nat → List Sp
  | 0 => []
  | n + 1 => manyP m :: manyF (m + 1) n
theorem manyF_len : ∀ (n m : Nat), (manyF m n).length = n
  | 0, _ => rfl
  | n + 1, m => by rw [manyF, List.length_cons, manyF_len n]
theorem manyF_snoc : ∀ (n m : Nat), manyF m (n + 1) = manyF m n ++ [manyP (m + n)]
  | 0, m => rfl
  | n + 1, m => by
    rw [manyF, manyF_snoc n (m + 1), manyF, List.cons_append, show m + 1 + n = m + (n + 1) by omega]
theorem manyF_get : ∀ (n m i : Nat), i < n → (manyF m n)[i]? = some (manyP (m + i))
  | 0, _, _, h => by omega
  | n + 1, m, 0, _ => rfl
  | n + 1, m, i + 1, h => by
    rw [manyF, List.getElem?_cons_succ, manyF_get n (m + 1) i (by omega), show m + 1 + i = m + (i + 1) by omega]
theorem manyF_right : ∀ (n m : Nat) (lo : Int), lo ≤ 2 * (m : Int) → rF lo (manyF m n) = true
  | 0, _, _, _ => rfl
  | n + 1, m, lo, h => rF_cons.2 ⟨h, Int.le_refl _, manyF_right n (m + 1) _ (by unfold manyP; simp only; omega)⟩
theorem manyF_b : ∀ (n m : Nat), m + n ≤ 5000 → ∀ x ∈ manyF m n, SpB x
  | 0, _, _, x, h => (List.not_mem_nil h).elim
  | n + 1, m, hm, x, h => by
    rcases List.mem_cons.1 h with rfl | h
    · unfold manyP; constructor <;> simp only <;> omega
    · exact manyF_b n (m + 1) (by omega) x h
def manyL (n : Nat) : List Sp := manyF 0 n
theorem manyL_len (n : Nat) : (manyL n).length = n := manyF_len n 0
theorem manyL_right (n : Nat) : rightS (manyL n) = true := manyF_right n 0 0 (by decide)
theorem manyL_b (n : Nat) (h : n ≤ 5000) : ∀ x ∈ manyL n, SpB x := manyF_b n 0 (by omega)
theorem manyL_succ (n : Nat) : manyL (n + 1) = manyL n ++ [manyP n] := by have := manyF_snoc n 0; rw [Nat.zero_add] at this; exact this
theorem manyL_take (n : Nat) : (manyL (n + 1)).take n = manyL n := by
  rw [manyL_succ, List.take_append_of_le_length (by rw [manyL_len]; exact Nat.le_refl _), List.take_of_length_le (by rw [manyL_len]; exact Nat.le_refl _)]
theorem manyL_drop (n : Nat) : (manyL (n + 1)).drop n = [manyP n] := by
  rw [manyL_succ, List.drop_append_of_le_length (by rw [manyL_len]; exact Nat.le_refl _), List.drop_eq_nil_of_le (by rw [manyL_len]; exact Nat.le_refl _), List.nil_append]
theorem many_more : textS (manyL 4096) ++ [44, 56, 49, 57, 50] = textS (manyL 4097) := by
  have h2 : manyL 4097 = manyL 4096 ++ [manyP 4096] := manyL_succ 4096
  rw [h2, textS_app _ _ (fun h => by have := congrArg List.length h; rw [manyL_len] at this; cases this)]
  rw [show Lib.joinTail [44] ([manyP 4096].map spanT) = [44, 56, 49, 57, 50] from by decide +kernel]
theorem read_more : readS (textS (manyL 4097)) = none := by
  have hne : manyL 4097 ≠ [] := fun h => by have := congrArg List.length h; rw [manyL_len] at this; cases this
  have hb := manyL_b 4097 (by decide)
  have hl := rF_le (manyL_right 4097)
  have hs : splitC 44 (textS (manyL 4097)) = (manyL 4097).map spanT := split_join 44 _ (by simpa using hne) (fun p hp => by
    obtain ⟨x, hx, rfl⟩ := List.mem_map.1 hp
    exact spanT_no x (hb x hx).f0 (hb x hx).t0 44 (by decide))
  have hf : foldR [] (splitC 44 (textS (manyL 4097))) = some (manyL 4097) := by
    rw [hs, foldR_text _ [] hb hl (by rw [manyL_len]; decide), List.nil_append]
  rw [readS_eq (textS_ne hne) hf, if_neg]
  rintro ⟨h, _⟩
  unfold wrongL at h
  rw [if_pos (by rw [manyL_len]; decide)] at h
  cases h
theorem read_ones (u : List UInt8) (h : u.head? ≠ some 45) (hd : noDig u) : readS (49 :: 44 :: 49 :: u) = none := by
  have b1 : SpB ((1, 1) : Sp) := by constructor <;> decide
  have e1 : spanT ((1, 1) : Sp) = [49] := by decide +kernel
  have h0 := RInv.start (49 :: 44 :: 49 :: u)
  have i1 : itemP (49 :: 44 :: 49 :: u) = some (((1, 1) : Sp), 44 :: 49 :: u) := by
    have := item_mk (1, 1) (44 :: 49 :: u) b1 (by decide) (by show isDig 44 = false; decide) (by simp)
    rw [e1] at this; exact this
  have h1 := h0.step (r1 := 49 :: 44 :: 49 :: u) (by simp) (.inl ⟨rfl, rfl⟩) i1
  have i2 : itemP (49 :: u) = some (((1, 1) : Sp), u) := by
    have := item_mk (1, 1) u b1 (by decide) hd h
    rw [e1] at this; exact this
  have h2 := h1.step (r1 := 49 :: u) (by simp) (.inr ⟨by simp, rfl⟩) i2
  refine readS_no fun s hr hb _ ht => ?_
  obtain ⟨s', hs⟩ := h2.all s hr hb ht
  subst hs
  have := rF_next (s := [] ++ [((1, 1) : Sp)] ++ [(1, 1)] ++ s') (i := 0) (x := (1, 1)) (y := (1, 1)) hr rfl rfl
  simp at this
theorem read_repeat : readS (Lib.repeatL [49, 44] 5000 ++ [49]) = none := by
  have e : Lib.repeatL [49, 44] 5000 = 49 :: 44 :: 49 :: 44 :: Lib.repeatL [49, 44] 4998 := by
    have h1 : Lib.repeatL [49, 44] 5000 = [49, 44] ++ Lib.repeatL [49, 44] 4999 := Lib.repeatL.eq_2 _ 4999
    have h2 : Lib.repeatL [49, 44] 4999 = [49, 44] ++ Lib.repeatL [49, 44] 4998 := Lib.repeatL.eq_2 _ 4998
    rw [h1, h2]
    generalize Lib.repeatL [49, 44] 4998 = z
    simp only [List.cons_append, List.nil_append]
  have h := fun z : List UInt8 => read_ones (44 :: (z ++ [49])) (by simp) (by show isDig 44 = false; decide)
  rw [e]
  generalize Lib.repeatL [49, 44] 4998 = z
  exact h z
/-- The first k many, the rest not yet written. -/
def mixM (k : Nat) : List Sp := manyL k ++ List.replicate (4097 - k) ((0 : Int), (0 : Int))
theorem mixM_zero : mixM 0 = List.replicate 4097 ((0 : Int), (0 : Int)) := rfl
theorem mixM_full : mixM 4097 = manyL 4097 := by
  unfold mixM
  rw [Nat.sub_self, List.replicate_zero, List.append_nil]
theorem mixM_len (k : Nat) (h : k ≤ 4097) : (mixM k).length = 4097 := by
  unfold mixM
  rw [List.length_append, manyL_len, List.length_replicate]
  omega
theorem mixM_next (k : Nat) (h : k < 4097) : mixM k = manyL k ++ ((0 : Int), (0 : Int)) :: List.replicate (4097 - (k + 1)) ((0 : Int), (0 : Int)) := by
  unfold mixM
  rw [show 4097 - k = (4097 - (k + 1)) + 1 by omega, List.replicate_succ]
theorem mixM_get (k : Nat) (h : k < 4097) : (mixM k)[k]? = some ((0 : Int), (0 : Int)) := by
  rw [mixM_next k h, List.getElem?_append_right (by rw [manyL_len]; exact Nat.le_refl _), manyL_len, Nat.sub_self]
  rfl
theorem mixM_set1 (k : Nat) (x : Sp) (h : k < 4097) : (mixM k).set k x = manyL k ++ x :: List.replicate (4097 - (k + 1)) ((0 : Int), (0 : Int)) := by
  rw [mixM_next k h, List.set_append_right _ _ (by rw [manyL_len]; exact Nat.le_refl _), manyL_len, Nat.sub_self]
  rfl
theorem mixM_get1 (k : Nat) (x : Sp) (h : k < 4097) : ((mixM k).set k x)[k]? = some x := by
  rw [mixM_set1 k x h, List.getElem?_append_right (by rw [manyL_len]; exact Nat.le_refl _), manyL_len, Nat.sub_self]
  rfl
theorem mixM_set (k : Nat) (x : Sp) (h : k < 4097) : ((mixM k).set k x).set k (manyP k) = mixM (k + 1) := by
  rw [mixM_set1 k x h, List.set_append_right _ _ (by rw [manyL_len]; exact Nat.le_refl _), manyL_len, Nat.sub_self]
  unfold mixM
  rw [manyL_succ, List.append_assoc]
  rfl
theorem made_two (z : Value) (n : Nat) : (madeCells #[z, z] n).toList = List.replicate n z := by
  apply List.ext_getElem
  · simp [madeCells]
  · intro i h1 h2
    simp only [madeCells, Array.getElem_toList, Array.getElem_map, Array.getElem_range, List.getElem_replicate]
    have h : i % 2 = 0 ∨ i % 2 = 1 := by omega
    show #[z, z][i % 2]! = z
    rcases h with h | h <;> rw [h] <;> rfl
theorem zero_flat : ∀ n : Nat, (List.replicate n ((0 : Int), (0 : Int))).flatMap spCells = List.replicate (n * 2) (.int .u32 0)
  | 0 => rfl
  | n + 1 => by
    rw [List.replicate_succ, List.flatMap_cons, zero_flat n, show (n + 1) * 2 = n * 2 + 1 + 1 by omega, List.replicate_succ, List.replicate_succ]
    rfl
theorem zeros_row (W : World) (t : TypeId) : (W.alloc (.cells (madeCells #[.int .u32 0, .int .u32 0] (4097 * 2)) t)).ownsRow W.heap.size t 2 (.slice (some ⟨W.heap.size, 0, none⟩) 4097 4097) 4097 ((mixM 0).flatMap spCells) := by
  refine ⟨by rw [flat_length spCells_length, mixM_len 0 (by omega)], .inr ⟨W.heap.size, 4097, _, rfl, Nat.le_refl _, heap_alloc_new W _, Nat.le_refl _, by decide, size_madeCells _ _, ?_⟩⟩
  rw [mixM_zero, zero_flat, made_two, List.take_of_length_le (by rw [List.length_replicate]; exact Nat.le_refl _)]
end Go.Ab
set_option linter.unusedSimpArgs false
set_option linter.unusedVariables false
namespace Go.Proofs.YtgfkcbflnkpogaaGreatDoor
open Go.RowKit Go.Ab
theorem many_rows {W : World} {D base : Nat} (h : W.ownsRow base 39 2 (.slice (some ⟨D, 0, none⟩) 4097 4097) 4097 ((manyL 4097).flatMap spCells)) :
    SpRow W (.slice (some ⟨D, 0, none⟩) 4097 4097) (manyL 4097) ∧ SpRow W (.slice (some ⟨D, 0, none⟩) 4096 4097) (manyL 4096) ∧ SpRow W (.slice (some ⟨D, 8192, none⟩) 1 1) [manyP 4096] := by
  have hl := manyL_len 4097
  have r : SpRow W (.slice (some ⟨D, 0, none⟩) 4097 4097) (manyL 4097) := sp_row (by rw [hl]; exact h)
  have ht : (manyL 4097).take 4096 = manyL 4096 := manyL_take 4096
  have hd : (manyL 4097).drop 4096 = [manyP 4096] := manyL_drop 4096
  refine ⟨r, ?_, ?_⟩
  · have := RowOf.take (p := some ⟨D, 0, none⟩) (cap := 4097) (l := manyL 4097) (by rw [hl]; exact r) 4096 (by rw [hl]; omega)
    rw [ht] at this
    exact this
  · have := RowOf.drop r 4096 hl (by omega) 1 (by omega)
    rw [hd] at this
    exact this
theorem many_bad (n : Nat) : badS (manyL n) = false := by
  unfold badS
  rw [List.any_eq_false]
  intro x hx
  have := rF_le (manyL_right n) x hx
  simp only [decide_eq_true_eq]
  omega
theorem many_of : ofL (manyL 4096) = manyL 4096 := of_right (manyL_right 4096) (manyL_b 4096 (by decide))
theorem many_union : unionL (manyL 4096) [manyP 4096] = manyL 4097 := by
  have h : manyL 4097 = manyL 4096 ++ [manyP 4096] := manyL_succ 4096
  unfold unionL
  rw [← h]
  exact of_right (manyL_right 4097) (manyL_b 4097 (by decide))
theorem many_pr : rightS [manyP 4096] = true := by decide +kernel
theorem many_pb : ∀ x ∈ [manyP 4096], SpB x := fun x h => by rw [List.mem_singleton.1 h]; constructor <;> decide
theorem rowL_of {f : FuncId} {args : Array Value} {W : World} {L : List Sp} (n : Nat) (hn : L.length = n) (h : GivesS f args W L) :
    Calls Tryz.prog f args W fun e w' => ∃ p c, e = .returned (.tuple #[.slice p n c, .int .i64 0]) ∧ Hid (SpRow w' (.slice p n c) L) ∧ ∃ x : Ext W, w' = x.w :=
  h.mono fun e w' ⟨u, he, hown, hx⟩ => by
    have r := sp_row hown
    obtain ⟨p, c, rfl⟩ := sp_len r
    rw [hn] at he r
    exact ⟨p, c, he, Lib.hid r, hx⟩
theorem many_ofC (W : World) (v : Value) (hv : SpRow W v (manyL 4096)) :
    Calls Tryz.prog 22 #[v] W fun e w' => ∃ p c, e = .returned (.tuple #[.slice p 4096 c, .int .i64 0]) ∧ Hid (SpRow w' (.slice p 4096 c) (manyL 4096)) ∧ ∃ x : Ext W, w' = x.w := by
  have h := spof_yes (manyL 4096) v W hv (manyL_b 4096 (by decide)) (by rw [manyL_len]; exact Nat.le_refl _) (many_bad 4096)
  rw [many_of] at h
  exact rowL_of 4096 (manyL_len 4096) h
theorem many_unionC (W : World) (va vb : Value) (ha : SpRow W va (manyL 4096)) (hb : SpRow W vb [manyP 4096]) :
    Calls Tryz.prog 13 #[va, vb] W fun e w' => ∃ p c, e = .returned (.tuple #[.slice p 4097 c, .int .i64 0]) ∧ Hid (SpRow w' (.slice p 4097 c) (manyL 4097)) ∧ ∃ x : Ext W, w' = x.w := by
  have h := spunion_yes (manyL 4096) [manyP 4096] va vb W ha hb (manyL_right 4096) many_pr (manyL_b 4096 (by decide)) many_pb (by rw [manyL_len]; exact Nat.le_refl _) (by decide)
  rw [many_union] at h
  exact rowL_of 4097 (manyL_len 4097) h
theorem many_textC (W : World) (g : Good W) (v : Value) (hv : SpRow W v (manyL 4096)) (T : ByteArray) (hT : (⟨(textS (manyL 4096)).toArray⟩ : ByteArray) = T) :
    Gives Tryz.prog 21 #[v] W (.tuple #[.string T, .int .i64 0]) := by
  subst hT
  exact sptext_yes (manyL 4096) v W g hv (manyL_b 4096 (by decide)) (manyL_right 4096) (by rw [manyL_len]; exact Nat.le_refl _)
theorem stepG_calls {P : Program} {ops : Array Oper} {o : Oper} {a : Act} {w : World} {K : Act → World → Prop} {Q : Exit → Act → World → Prop} {E : Prop} (hw : Region.wanted o (yielded ops a.tmps) = true) (f : FuncId) (xs : Array Operand) (ts : Array TypeId) (hop : o.op = Op.call { callee := Callee.value (Operand.func f), args := xs, argTypes := ts })
    (args : Array Value) (ha : xs.map a.eval = args) (hcf : ∀ w, (callFunc f args).run P w = .ok (.enter f args) w) {R : Ending → World → Prop} (h : Calls P f args w R) (hK : ∀ e w1, R e w1 → ∃ v, e = .returned v ∧ K (a.put o.dst v) w1) :
    (if Region.wanted o (yielded ops a.tmps) = true then o.wp P a w K Q else E) := by
  rw [if_pos hw]
  unfold Oper.wp
  unfold execOp
  rw [hop]
  go_simp
  refine h.mono ?_
  intro e w1 hr
  obtain ⟨v, rfl, hk⟩ := hK e w1 hr
  exact hk
theorem many_tlen (n : Nat) (h : n ≤ 4097) : (textS (manyL n)).length ≤ 180268 := by
  have := textS_length (manyL n) (manyL_b n (by omega))
  rw [manyL_len] at this
  omega
theorem many_size {T : ByteArray} (hT : (⟨(textS (manyL 4096)).toArray⟩ : ByteArray) = T) : T.size ≤ 180268 := by
  subst hT
  have := many_tlen 4096 (by decide)
  simpa [ByteArray.size] using this
theorem many_readC (W : World) (g : Good W) (T : ByteArray) (hT : (⟨(textS (manyL 4096)).toArray⟩ : ByteArray) = T) :
    Calls Tryz.prog 28 #[.string T] W fun e w' => ∃ p c, e = .returned (.tuple #[.slice p 4096 c, .int .i64 0]) ∧ Hid (SpRow w' (.slice p 4096 c) (manyL 4096)) ∧ ∃ x : Ext W, w' = x.w := by
  subst hT
  have h := read_row (textS (manyL 4096)) (manyL 4096) (span_read_text (manyL_right 4096) (manyL_b 4096 (by decide)) (by rw [manyL_len]; exact Nat.le_refl _)) W g (by have := many_tlen 4096 (by decide); omega)
  unfold GivesL at h
  rw [manyL_len] at h
  exact h
theorem many_moreC (W : World) (g : Good W) (T : ByteArray) (hT : (⟨(textS (manyL 4096)).toArray⟩ : ByteArray) = T) :
    Gives Tryz.prog 28 #[.string (T ++ ⟨#[44, 56, 49, 57, 50]⟩)] W (.tuple #[.slice none 0 0, .int .i64 40]) := by
  subst hT
  have e : ((⟨(textS (manyL 4096)).toArray⟩ : ByteArray) ++ ⟨#[44, 56, 49, 57, 50]⟩) = ⟨(textS (manyL 4097)).toArray⟩ := by
    apply ByteArray.ext
    rw [ByteArray.data_append, ← many_more]
    simp
  rw [e]
  exact read_none (textS (manyL 4097)) read_more W g (by have := many_tlen 4097 (by decide); omega)
theorem many_repC (W : World) (g : Good W) (R : ByteArray) (hR : (⟨(Lib.repeatL [49, 44] 5000).toArray⟩ : ByteArray) = R) :
    Gives Tryz.prog 28 #[.string (R ++ ⟨#[49]⟩)] W (.tuple #[.slice none 0 0, .int .i64 40]) := by
  subst hR
  have e : ((⟨(Lib.repeatL [49, 44] 5000).toArray⟩ : ByteArray) ++ ⟨#[49]⟩) = ⟨(Lib.repeatL [49, 44] 5000 ++ [49]).toArray⟩ := by
    apply ByteArray.ext
    rw [ByteArray.data_append]
    generalize Lib.repeatL [49, 44] 5000 = z
    simp
  rw [e]
  exact read_none (Lib.repeatL [49, 44] 5000 ++ [49]) read_repeat W g (by rw [List.length_append, Lib.repeatL_length]; decide)
theorem rep_size {R : ByteArray} (hR : (⟨(Lib.repeatL [49, 44] 5000).toArray⟩ : ByteArray) = R) : R.size = 10000 := by
  subst hR
  have := Lib.repeatL_length [49, 44] 5000
  simpa [ByteArray.size] using this
theorem rep_call (W : World) (R : ByteArray) (hR : (⟨(Lib.repeatL [49, 44] 5000).toArray⟩ : ByteArray) = R) : Gives Tryz.prog 33 #[.string ⟨#[49, 44]⟩, .int .i64 5000] W (.string R) := by
  subst hR
  exact (Tryz.strings_Repeat ⟨#[49, 44]⟩ 5000 W (by decide) (by decide)).mono fun e w' ⟨h1, h2⟩ => ⟨h1, Up.mk h2⟩
theorem made_pf : ∀ n : Nat, (madeCells #[.int .u32 0, .int .u8 0] (n * 2)).toList = (List.replicate n ((0 : Int), (0 : Int))).flatMap pfCells
  | 0 => by simp [madeCells]
  | n + 1 => by
    rw [List.replicate_succ', List.flatMap_append, ← made_pf n]
    simp only [madeCells, Array.toList_map, Array.toList_range]
    rw [show (n + 1) * 2 = n * 2 + 1 + 1 by omega, List.range_succ, List.range_succ, List.map_append, List.map_append, List.append_assoc]
    congr 1
    have h1 : (n * 2) % 2 = 0 := by omega
    have h2 : (n * 2 + 1) % 2 = 1 := by omega
    simp [h1, h2, pfCells]
theorem pz_row (W : World) (n : Nat) : PfRow (W.alloc (.cells (madeCells #[.int .u32 0, .int .u8 0] (n * 2)) 62)) (.slice (some ⟨W.heap.size, 0, none⟩) n n) (List.replicate n ((0 : Int), (0 : Int))) := by
  have e : madeCells #[.int .u32 0, .int .u8 0] (n * 2) = ((List.replicate n ((0 : Int), (0 : Int))).flatMap pfCells).toArray := by rw [← made_pf]
  have h := RowOf.of_block (cells := pfCells) (k := 2) pfCells_length (w := W.alloc (.cells (madeCells #[.int .u32 0, .int .u8 0] (n * 2)) 62)) (b := W.heap.size) (cap := n) (l := List.replicate n ((0 : Int), (0 : Int))) (t := 62) (fz := (0, 0)) (by rw [alloc_get, if_pos rfl, e]) (by rw [List.length_replicate]; exact Nat.le_refl _)
  rw [List.length_replicate] at h
  exact h
theorem pz_b (n : Nat) : ∀ p ∈ List.replicate n ((0 : Int), (0 : Int)), PfB p := fun p h => by
  rw [(List.mem_replicate.1 h).2]; constructor <;> decide
end Go.Proofs.YtgfkcbflnkpogaaGreatDoor
