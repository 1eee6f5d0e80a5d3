/- strings.SplitSeq at one byte: the iterator. -/
import Derived.Test.YtgfkcbflnkpogaaGreatDoorSp11
set_option linter.unusedSimpArgs false
set_option linter.unusedVariables false
namespace Go.Ab
open Go.RowKit
theorem split_index (c : UInt8) : ∀ r : List UInt8, (Lib.index r [c] = -1 ∧ splitC c r = [r]) ∨ ∃ i : Nat, Lib.index r [c] = (i : Int) ∧ i < r.length ∧ splitC c r = r.take i :: splitC c (r.drop (i + 1))
  | [] => .inl ⟨index_nil c, rfl⟩
  | b :: r => by
    rw [index_cons]
    by_cases h : b = c
    · rw [if_pos h]
      exact .inr ⟨0, rfl, by simp, by simp [splitC, h]⟩
    · rw [if_neg h]
      rcases split_index c r with ⟨h1, h2⟩ | ⟨i, h1, h2, h3⟩
      · rw [h1, if_pos rfl]
        exact .inl ⟨rfl, by rw [splitC, if_neg h, h2]; rfl⟩
      · rw [h1, if_neg (by omega)]
        refine .inr ⟨i + 1, by omega, by simp; omega, ?_⟩
        rw [splitC, if_neg h, h3]
        simp
theorem bb_take (l : List UInt8) (k : Nat) : (⟨l.toArray⟩ : ByteArray).extract 0 k = ⟨(l.take k).toArray⟩ := by
  apply ByteArray.ext
  simp [ByteArray.data_extract]
theorem bb_drop (l : List UInt8) (k : Nat) : (⟨l.toArray⟩ : ByteArray).extract k l.length = ⟨(l.drop k).toArray⟩ := by
  apply ByteArray.ext
  simp [ByteArray.data_extract]
  exact List.take_of_length_le (by simp)
def slenAt (W : World) (b : Nat) : Nat := match W.cell? ⟨b, 0, none⟩ with | some (.string s) => s.size | _ => 0
theorem slenAt_of {W : World} {b : Nat} {r : List UInt8} (h : W.cell? ⟨b, 0, none⟩ = some (.string ⟨r.toArray⟩)) : slenAt W b = r.length := by unfold slenAt; rw [h]; rfl
def encStr1 (x : List UInt8) : Array Value := #[.string ⟨x.toArray⟩]
end Go.Ab
namespace Go.Proofs.YtgfkcbflnkpogaaGreatDoor
open Go.RowKit Go.Ab
attribute [local go_sem] Oper.semAt_some
attribute [local go_sem high] wrapI64 wrapK64
theorem sindex_any (l : List UInt8) (c : UInt8) (m : Int) (w : World) (hs : l.length < 4294967281) (hm : w.cell? ⟨0, 0, none⟩ = some (.int .i64 m)) :
    Calls Tryz.prog 122 #[.string ⟨l.toArray⟩, .string ⟨#[c]⟩] w fun e w' => e = .returned (.int .i64 (Lib.index l [c])) ∧ w' = w := Tryz.strings_Index ⟨l.toArray⟩ ⟨#[c]⟩ m w hs hm
set_option maxHeartbeats 32000000 in
set_option maxRecDepth 100000 in
theorem splitseq_seq (n0 bS bP bV : Nat) (c : UInt8) (l : List UInt8) (m : Int) (hl : l.length < 4294967281) (h0S : n0 ≤ bS) (h0P : n0 ≤ bP) (h0V : n0 ≤ bV) (hSP : bS ≠ bP) (hSV : bS ≠ bV) (hg : 0 < n0) :
    SeqUpK Tryz.prog 120 #[.pointer (some ⟨bP, 0, none⟩), .pointer (some ⟨bS, 0, none⟩), .pointer (some ⟨bV, 0, none⟩)] encStr1 (fun xs => xs = splitC c l) (fun pre => pre <+: splitC c l) (fun _ k => k = bS) (fun _ k => k < n0 ∨ k = bS ∨ k = bP ∨ k = bV)
      (fun W => W.heap[bS]? = some (.cells #[.string ⟨l.toArray⟩] 9 (0, 0)) ∧ W.cell? ⟨bP, 0, none⟩ = some (.string ⟨#[c]⟩) ∧ W.cell? ⟨bV, 0, none⟩ = some (.int .i64 0) ∧ W.cell? ⟨0, 0, none⟩ = some (.int .i64 m)) := by
  intro ll J Jx W hK hJ hJx hY h0
  obtain ⟨cS, cP, cV, cM⟩ := hK
  haveI : LtSize bP W := ⟨cell_lt' cP⟩
  go_enter Tryz.func120, Tryz.ntmps120
  go_wp2_with fail
  go_loopw [7] (fun _ wr => ∃ (r : List UInt8) (pre : List (List UInt8)), r.length < 4294967281 ∧ Hid (pre ++ splitC c r = splitC c l) ∧ J pre wr ∧ wr.heap[bS]? = some (.cells #[.string ⟨r.toArray⟩] 9 (0, 0)) ∧ wr.cell? ⟨bP, 0, none⟩ = some (.string ⟨#[c]⟩) ∧ wr.cell? ⟨bV, 0, none⟩ = some (.int .i64 0) ∧ wr.cell? ⟨0, 0, none⟩ = some (.int .i64 m))
    (fun _ wr => slenAt wr bS)
  case atStart => exact ⟨l, [], hl, rfl, h0, cS, cP, cV, cM⟩
  case round =>
    clear cS cP cV cM h0
    obtain ⟨r, pre, hr, Hpre, hj, hS, cP, cV, cM⟩ := hrel
    have cS := cell_of_one hS
    have fS := free_of_one hS
    haveI : LtSize bS wr := ⟨cell_lt' cS⟩
    haveI : LtSize bP wr := ⟨cell_lt' cP⟩
    haveI : LtSize bV wr := ⟨cell_lt' cV⟩
    haveI : NeB bS bP := ⟨hSP⟩
    haveI : NeB bS bV := ⟨hSV⟩
    have hix := sindex_any r c m wr hr cM
    rcases split_index c r with ⟨hi, hsp⟩ | ⟨i, hi, hil, hsp⟩
    · rw [hi] at hix
      have HX := Lib.hid hix
      clear hix hi
      have HP := Lib.hid (show pre ++ [r] = splitC c l by rw [← Hpre.out, hsp])
      go_upto_region 10 with (go_at_call 122; refine HX.out.mono ?_; clear HX; rintro e w' ⟨rfl, rfl⟩)
      obtain ⟨fn, tmps, assign, body, hy, hR⟩ := hY pre r w' hj ⟨[], by rw [List.append_nil]; exact HP.out⟩
      change (Instr.yield ll #[.string ⟨r.toArray⟩]).run Tryz.prog w' = _ at hy
      have Hy := Lib.hid hy
      have HR := Lib.hid hR
      clear hR hY
      refine (wpIn_wide (n := 0)).1 ?_
      gi_wp2_with fail
      all_goals
        refine ⟨rfl, HR.out.mono ?_⟩
        rintro e' W' (⟨rfl, hJ', hk⟩ | ⟨rfl, hJx'⟩)
        · gi_wp2_with fail
          go_end0
          exact ⟨⟨_, rfl⟩, .inl ⟨_, HP.out, hJ'⟩⟩
        · gi_wp2_with fail
          go_end0
          exact ⟨⟨_, rfl⟩, .inr ⟨_, hJx'⟩⟩
    · rw [hi] at hix
      have HX := Lib.hid hix
      clear hix hi
      have i0 : (0 : Int) ≤ (i : Int) := by omega
      have hil' : (i : Int) < (r.length : Int) := by omega
      have hnn : decide ((i : Int) < 0) = false := decide_eq_false (by omega)
      haveI : In64 ((i : Int) + 1) := ⟨by omega⟩
      have Hp2 := Lib.hid (show (pre ++ [r.take i]) ++ splitC c (r.drop (i + 1)) = splitC c l by rw [← Hpre.out, hsp]; simp)
      have HM := Lib.hid (slenAt_of cS)
      go_upto_region 8 with (go_at_call 122; refine HX.out.mono ?_; clear HX; rintro e w' ⟨rfl, rfl⟩)
      obtain ⟨fn, tmps, assign, body, hy, hR⟩ := hY pre (r.take i) w' hj ⟨_, Hp2.out⟩
      change (Instr.yield ll #[.string ⟨(r.take i).toArray⟩]).run Tryz.prog w' = _ at hy
      rw [← bb_take] at hy
      have Hy := Lib.hid hy
      have HR := Lib.hid hR
      clear hR hY
      refine (wpIn_wide (n := 0)).1 ?_
      gi_wp2_with fail
      all_goals
        refine ⟨rfl, HR.out.mono ?_⟩
        rintro e' W' (⟨rfl, hJ', hk⟩ | ⟨rfl, hJx'⟩)
        · have hS' : W'.heap[bS]? = some (.cells #[.string ⟨r.toArray⟩] 9 (0, 0)) := (hk.2 bS (.inr (.inl rfl)) (heap_lt hS)).trans hS
          have cP' := hk.cell cP (.inr (.inr (.inl rfl)))
          have cV' := hk.cell cV (.inr (.inr (.inr rfl)))
          have cM' := hk.cell cM (.inl hg)
          have cS' := cell_of_one hS'
          have fS' := free_of_one hS'
          haveI : LtSize bS W' := ⟨cell_lt' cS'⟩
          haveI : LtSize bP W' := ⟨cell_lt' cP'⟩
          haveI : LtSize bV W' := ⟨cell_lt' cV'⟩
          have HJ' := Lib.hid hJ'
          have HS' := Lib.hid hS'
          clear hk hJ' hS' cS cP cV cM fS hS
          gi_wp2_with fail
          go_wp2_with fail
          rw [bb_drop]
          have e1 := one_setCell (u := .string ⟨(r.drop (i + 1)).toArray⟩) HS'.out
          refine ⟨⟨r.drop (i + 1), _, by rw [List.length_drop]; omega, Hp2.out, hJ _ _ _ HJ'.out (Turn.of_setCell _ _ _ rfl), e1, ?_, ?_, ?_⟩, ?_⟩
          · rw [setCell_cellI]; exact cP'
          · rw [setCell_cellI]; exact cV'
          · rw [World.cell?_setCell_other _ _ _ _ (fun e => by have := congrArg Addr.block e; simp at this; omega)]; exact cM'
          · rw [slenAt_of (cell_of_one e1), HM.out, List.length_drop]; omega
        · gi_wp2_with fail
          go_wp2_with fail
          (try simp only [Exit.inBlock, Exit.then])
          refine bodyPost_ret (results_none rfl _ _ _) rfl ?_
          exact ⟨⟨_, rfl⟩, .inr ⟨_, hJx'⟩⟩
end Go.Proofs.YtgfkcbflnkpogaaGreatDoor
