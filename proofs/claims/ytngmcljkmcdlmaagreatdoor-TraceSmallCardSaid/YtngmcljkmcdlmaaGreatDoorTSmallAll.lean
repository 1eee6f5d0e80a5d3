/- The walk of TraceSmall (layer 41): a closed statement. -/
import Derived.Test.YtngmcljkmcdlmaaGreatDoorTTextsAll
import Derived.Test.YtngmcljkmcdlmaaGreatDoorTTellsAll
import Derived.Test.YtngmcljkmcdlmaaGreatDoorNone
import Derived.Test.YtngmcljkmcdlmaaGreatDoorEvAt
import Derived.Deep.DeepCutAuto
import Derived.Deep.CutBlock
namespace Go.Ab
open Go.RowKit Go.Proofs.YtngmcljkmcdlmaaGreatDoor
theorem wp_letter {P : Program} {c : Code} {Q : Exit → Act → World → Prop} {a : Act} {W0 : World} (S : World → Prop) (hS : S W0) (h : ∀ W, S W → c.wp P Q a W) : c.wp P Q a W0 := h W0 hS
theorem textS_len (e : Ev) (b : EvB e) : (evTextS e.n e.sd e.r e.pr e.s e.d e.sp e.dp).length ≤ 500 := by
  unfold evTextS
  split
  · rename_i h; exact text_len e b h
  · simp
theorem bsz (a : Array UInt8) : (⟨a⟩ : ByteArray).size = a.size := rfl
theorem cells2 {w : World} {t : TypeId} {b : Nat} {e0 e1 : Ev} (h : w.heap[b]? = some (.cells (e0.cells ++ e1.cells).toArray t (0, 0))) : EvRow w (.slice (some ⟨b, 0, none⟩) 2 2) [e0, e1] := by
  refine ⟨_, 2, rfl, fun i _ => ⟨b, 0, rfl, (Array.getElem?_eq_some_iff.1 h).1, fun j u hu => ?_⟩⟩
  obtain ⟨e, he, hj⟩ := Option.bind_eq_some_iff.1 hu
  have h1 := evCells_at [e0, e1] i j e u he hj
  rw [cell_at h, Nat.zero_add]
  simp only [evCells, List.flatMap_cons, List.flatMap_nil, List.append_nil] at h1
  simpa using h1
theorem nameOf_len (r : Int) : (nameOf r).length ≤ 100 := by
  unfold nameOf
  split
  · cases h : namesL[r.toNat]? with
    | none => simp
    | some s =>
      have : ∀ s ∈ namesL, s.length ≤ 100 := by decide
      exact this s (List.mem_of_getElem? h)
  · simp
theorem row3 {w : World} {b : Nat} {e0 e1 e2 : Ev} (h : ∀ i j u, ((([e0, e1, e2] : List Ev)[i]?).bind fun e => e.cells[j]?) = some u → w.cell? ⟨b, i * 8 + j, none⟩ = some u) (hb : b < w.heap.size) : EvRow w (.slice (some ⟨b, 0, none⟩) 3 3) [e0, e1, e2] :=
  ⟨_, 3, rfl, fun i _ => ⟨b, 0, rfl, hb, fun j u hu => by rw [Nat.zero_add]; exact h i j u hu⟩⟩
/-- The cells of three events laid one behind the other. -/
theorem cells3 {w : World} {t : TypeId} {b : Nat} {e0 e1 e2 : Ev} (h : w.heap[b]? = some (.cells (e0.cells ++ e1.cells ++ e2.cells).toArray t (0, 0))) : EvRow w (.slice (some ⟨b, 0, none⟩) 3 3) [e0, e1, e2] := by
  refine row3 (fun i j u hu => ?_) (Array.getElem?_eq_some_iff.1 h).1
  obtain ⟨e, he, hj⟩ := Option.bind_eq_some_iff.1 hu
  have h1 := evCells_at [e0, e1, e2] i j e u he hj
  rw [cell_at h]
  simp only [evCells, List.flatMap_cons, List.flatMap_nil, List.append_nil] at h1
  simpa [List.append_assoc] using h1
/-- The events of the last but one loop. -/
def smE (i : Nat) : Ev := ⟨((i / 3 : Nat) : Int) - ((i % 7 / 6 : Nat) : Int), 0, 1 + ((i % 4 : Nat) : Int), 0, 0, 0, 0, 0⟩
def smL (k : Nat) : List Ev := (List.range k).map smE
theorem smL_snoc (k : Nat) : smL (k + 1) = smL k ++ [smE k] := by simp [smL, List.range_succ]
theorem smL_length (k : Nat) : (smL k).length = k := by simp [smL]
theorem smE_b (i : Nat) (h : i < 20) : EvB (smE i) := ⟨by dsimp only [smE]; omega, by dsimp only [smE]; omega, by dsimp only [smE]; omega, by dsimp only [smE]; omega, by dsimp only [smE]; omega, by dsimp only [smE]; omega, ⟨by dsimp only [smE]; omega, by dsimp only [smE]; omega, by dsimp only [smE]; omega, by dsimp only [smE]; omega, by dsimp only [smE]; omega, by dsimp only [smE]; omega, by dsimp only [smE]; omega, by dsimp only [smE]; omega, by dsimp only [smE]; omega, by dsimp only [smE]; omega⟩⟩
theorem smL_b (k : Nat) (h : k ≤ 20) : ∀ e ∈ smL k, EvB e := fun e he => by
  obtain ⟨i, hi, rfl⟩ := List.mem_map.1 he
  exact smE_b i (by have := List.mem_range.1 hi; omega)
end Go.Ab
namespace Go.Proofs.YtngmcljkmcdlmaaGreatDoor
open Go.RowKit Go.Ab
theorem evtexts_str (e : Ev) (eb : EvB e) (reason : Int) (s : ByteArray) (w : World) (g : GoodT w) (hl : s.size < 4294967281) (h0 : 0 ≤ reason) (h1 : reason < 256) :
    Gives Tryz.prog 6 #[e.val, .int .u8 reason, .string s] w (.bool true) := by
  have h := evtexts_any e eb reason s.data.toList w g (by simpa using hl) h0 h1
  simpa using h
set_option maxHeartbeats 64000000 in
set_option maxRecDepth 100000 in
theorem tsmall_any (w : World) (g : GoodT w) : Gives Tryz.prog 3 #[] w (.bool true) := by
  unfold Gives
  go_enter Tryz.func3, Tryz.ntmps3
  go_wp2_with (first
    | (go_at_call 4; refine (example_any _).mono ?_; rintro e w' ⟨rfl, x0, rfl⟩))
  refine wp_letter (fun W => UpI w W ∧ EvAt W x0.w.heap.size evA ∧ EvAt W (x0.w.heap.size + 1) evBb ∧ (∀ k : Nat, k < 18 → ∃ n : Int, W.cell? ⟨x0.w.heap.size + 1 + 1, k, none⟩ = some (.int .i64 n) ∧ -9223372036854775808 ≤ n ∧ n ≤ 9223372036854775807)) ?_ ?_
  · exact ⟨inferInstance, ⟨by simp [go_sem, evA], by simp [go_sem, evA], by simp [go_sem, evA], by simp [go_sem, evA], by simp [go_sem, evA], by simp [go_sem, evA], by simp [go_sem, evA], by simp [go_sem, evA]⟩, ⟨by simp [go_sem, evBb], by simp [go_sem, evBb], by simp [go_sem, evBb], by simp [go_sem, evBb], by simp [go_sem, evBb], by simp [go_sem, evBb], by simp [go_sem, evBb], by simp [go_sem, evBb]⟩, fun k hk => by
      rcases (by omega : k = 0 ∨ k = 1 ∨ k = 2 ∨ k = 3 ∨ k = 4 ∨ k = 5 ∨ k = 6 ∨ k = 7 ∨ k = 8 ∨ k = 9 ∨ k = 10 ∨ k = 11 ∨ k = 12 ∨ k = 13 ∨ k = 14 ∨ k = 15 ∨ k = 16 ∨ k = 17) with rfl | rfl | rfl | rfl | rfl | rfl | rfl | rfl | rfl | rfl | rfl | rfl | rfl | rfl | rfl | rfl | rfl | rfl
      · exact ⟨-9223372036854775808, by simp [go_sem], by decide, by decide⟩
      · exact ⟨-1, by simp [go_sem], by decide, by decide⟩
      · exact ⟨0, by simp [go_sem], by decide, by decide⟩
      · exact ⟨1, by simp [go_sem], by decide, by decide⟩
      · exact ⟨2, by simp [go_sem], by decide, by decide⟩
      · exact ⟨3, by simp [go_sem], by decide, by decide⟩
      · exact ⟨6, by simp [go_sem], by decide, by decide⟩
      · exact ⟨17, by simp [go_sem], by decide, by decide⟩
      · exact ⟨19, by simp [go_sem], by decide, by decide⟩
      · exact ⟨20, by simp [go_sem], by decide, by decide⟩
      · exact ⟨22, by simp [go_sem], by decide, by decide⟩
      · exact ⟨23, by simp [go_sem], by decide, by decide⟩
      · exact ⟨29, by simp [go_sem], by decide, by decide⟩
      · exact ⟨30, by simp [go_sem], by decide, by decide⟩
      · exact ⟨255, by simp [go_sem], by decide, by decide⟩
      · exact ⟨1099511627776, by simp [go_sem], by decide, by decide⟩
      · exact ⟨1099511627777, by simp [go_sem], by decide, by decide⟩
      · exact ⟨9223372036854775807, by simp [go_sem], by decide, by decide⟩⟩
  rintro W ⟨uW, eA, eB, hN⟩
  obtain ⟨A, hA⟩ : ∃ A, x0.w.heap.size = A := ⟨_, rfl⟩
  rw [hA] at eA eB hN ⊢
  clear hA
  haveI := eA.lt
  haveI := eB.lt
  obtain ⟨a0, a1, a2, a3, a4, a5, a6, a7⟩ := eA
  obtain ⟨b0, b1, b2, b3, b4, b5, b6, b7⟩ := eB
  simp only [evA] at a0 a1 a2 a3 a4 a5 a6 a7
  simp only [evBb] at b0 b1 b2 b3 b4 b5 b6 b7
  have gW := g.up uW.up
  go_loopw [36] (fun i wr => ∃ k : Nat, k ≤ 18 ∧ i = .int .i64 (k : Int) ∧ ∃ x : Ext W, wr = x.w) (fun i _ => 18 - (intOf i).toNat)
  case atStart => exact ⟨0, by omega, rfl, (Up.refl W).mk⟩
  case round =>
    obtain ⟨k, hk, rfl, x, rfl⟩ := hrel
    by_cases hlt : k < 18
    · have hlt' : (k : Int) < 18 := by omega
      have k0 : (0 : Int) ≤ (k : Int) := by omega
      obtain ⟨n, cn, n0, n1⟩ := hN k hlt
      haveI : LtSize (A + 1 + 1) W := ⟨cell_lt' cn⟩
      go_wp2_with fail
      go_loopw [40] (fun i wr => ∃ j : Nat, j ≤ 10 ∧ i = .int .i64 (j : Int) ∧ ∃ y : Ext W, wr = y.w) (fun i _ => 10 - (intOf i).toNat)
      case atStart => exact ⟨0, by omega, rfl, ⟨x, rfl⟩⟩
      case round =>
        obtain ⟨j, hj, rfl, y, rfl⟩ := hrel
        by_cases hjl : j < 10
        · have hjl' : (j : Int) < 10 := by omega
          have j0 : (0 : Int) ≤ (j : Int) := by omega
          obtain ⟨d, hd, hd4⟩ : ∃ d : Nat, Int.tdiv (j : Int) 2 = (d : Int) ∧ d ≤ 4 := ⟨j / 2, by rw [Int.tdiv_eq_ediv_of_nonneg j0]; omega, by omega⟩
          have hw : IntKind.u16.wrap n = n % 65536 := by simp [IntKind.wrap, IntKind.bits, IntKind.signed]
          have n8 : 0 ≤ n % 256 ∧ n % 256 < 256 := by omega
          have n16 : 0 ≤ n % 65536 ∧ n % 65536 < 65536 := by omega
          have h4 : ∀ z : World, Gives Tryz.prog 7 #[.int .i64 n, .slice (some ⟨z.heap.size, 0, none⟩) 3 3, .int .i64 n] (z.alloc (.cells #[.int .i64 12, .int .u8 1, .int .u8 22, .int .u8 6, .int .u32 167772161, .int .u32 167772162, .int .u16 1025, .int .u16 80, .int .i64 12, .int .u8 1, .int .u8 22, .int .u8 6, .int .u32 167772161, .int .u32 167772162, .int .u16 1025, .int .u16 80, .int .i64 13, .int .u8 0, .int .u8 3, .int .u8 0, .int .u32 0, .int .u32 0, .int .u16 0, .int .u16 0] 27)) (.bool true) := fun z => tells_any (z.alloc (.cells #[.int .i64 12, .int .u8 1, .int .u8 22, .int .u8 6, .int .u32 167772161, .int .u32 167772162, .int .u16 1025, .int .u16 80, .int .i64 12, .int .u8 1, .int .u8 22, .int .u8 6, .int .u32 167772161, .int .u32 167772162, .int .u16 1025, .int .u16 80, .int .i64 13, .int .u8 0, .int .u8 3, .int .u8 0, .int .u32 0, .int .u32 0, .int .u16 0, .int .u16 0] 27)) n [evA, evA, evBb] _ (cells3 (e0 := evA) (e1 := evA) (e2 := evBb) (World.alloc_heap_new z (.cells #[.int .i64 12, .int .u8 1, .int .u8 22, .int .u8 6, .int .u32 167772161, .int .u32 167772162, .int .u16 1025, .int .u16 80, .int .i64 12, .int .u8 1, .int .u8 22, .int .u8 6, .int .u32 167772161, .int .u32 167772162, .int .u16 1025, .int .u16 80, .int .i64 13, .int .u8 0, .int .u8 3, .int .u8 0, .int .u32 0, .int .u32 0, .int .u16 0, .int .u16 0] 27))) (fun x hx => by simp only [List.mem_cons, List.not_mem_nil, or_false] at hx; rcases hx with rfl | rfl | rfl; exact evA_b; exact evA_b; exact evB_b) (by simp) n n0 n1
          rcases (by omega : j % 2 = 0 ∨ j % 2 = 1) with hp2 | hp2
          · have ht : Int.tmod (j : Int) 2 = 0 := by rw [Int.tmod_eq_emod_of_nonneg j0]; omega
            clear hp2
            go_upto_block 4 with fail
            go_cut [56] (fun _ wx => (∃ x : Ext W, wx = x.w) ∧ ∃ e : Ev, EvB e ∧ EvAt wx (y.w.heap.size + 1) e)
            case first =>
              clear h4
              rcases (by omega : d = 0 ∨ d = 1 ∨ d = 2 ∨ d = 3 ∨ d = 4) with hc | hc | hc | hc | hc
              · have e0 : ((d : Int) == 0) = true := by rw [hc]; rfl
                clear hc
                go_wp2_with fail
                go_meet
                exact ⟨mkI, ⟨n, 1, 22, 6, 167772161, 167772162, 1025, 80⟩, ⟨by first | decide | (dsimp only; omega), by first | decide | (dsimp only; omega), by first | decide | (dsimp only; omega), by first | decide | (dsimp only; omega), by first | decide | (dsimp only; omega), by first | decide | (dsimp only; omega), ⟨by first | decide | (dsimp only; omega), by first | decide | (dsimp only; omega), by first | decide | (dsimp only; omega), by first | decide | (dsimp only; omega), by first | decide | (dsimp only; omega), by first | decide | (dsimp only; omega), by first | decide | (dsimp only; omega), by first | decide | (dsimp only; omega), by first | decide | (dsimp only; omega), by first | decide | (dsimp only; omega)⟩⟩, ⟨by simp [go_sem], by simp [go_sem], by simp [go_sem], by simp [go_sem], by simp [go_sem], by simp [go_sem], by simp [go_sem], by simp [go_sem]⟩⟩
              · have e0 : ((d : Int) == 0) = false := by rw [hc]; rfl
                have e1 : ((d : Int) == 1) = true := by rw [hc]; rfl
                clear hc
                go_wp2_with fail
                go_meet
                exact ⟨mkI, ⟨12, (n % 256), 22, 6, 167772161, 167772162, 1025, 80⟩, ⟨by first | decide | (dsimp only; omega), by first | decide | (dsimp only; omega), by first | decide | (dsimp only; omega), by first | decide | (dsimp only; omega), by first | decide | (dsimp only; omega), by first | decide | (dsimp only; omega), ⟨by first | decide | (dsimp only; omega), by first | decide | (dsimp only; omega), by first | decide | (dsimp only; omega), by first | decide | (dsimp only; omega), by first | decide | (dsimp only; omega), by first | decide | (dsimp only; omega), by first | decide | (dsimp only; omega), by first | decide | (dsimp only; omega), by first | decide | (dsimp only; omega), by first | decide | (dsimp only; omega)⟩⟩, ⟨by simp [go_sem], by simp [go_sem], by simp [go_sem], by simp [go_sem], by simp [go_sem], by simp [go_sem], by simp [go_sem], by simp [go_sem]⟩⟩
              · have e0 : ((d : Int) == 0) = false := by rw [hc]; rfl
                have e1 : ((d : Int) == 1) = false := by rw [hc]; rfl
                have e2 : ((d : Int) == 2) = true := by rw [hc]; rfl
                clear hc
                go_wp2_with fail
                go_meet
                exact ⟨mkI, ⟨12, 1, (n % 256), 6, 167772161, 167772162, 1025, 80⟩, ⟨by first | decide | (dsimp only; omega), by first | decide | (dsimp only; omega), by first | decide | (dsimp only; omega), by first | decide | (dsimp only; omega), by first | decide | (dsimp only; omega), by first | decide | (dsimp only; omega), ⟨by first | decide | (dsimp only; omega), by first | decide | (dsimp only; omega), by first | decide | (dsimp only; omega), by first | decide | (dsimp only; omega), by first | decide | (dsimp only; omega), by first | decide | (dsimp only; omega), by first | decide | (dsimp only; omega), by first | decide | (dsimp only; omega), by first | decide | (dsimp only; omega), by first | decide | (dsimp only; omega)⟩⟩, ⟨by simp [go_sem], by simp [go_sem], by simp [go_sem], by simp [go_sem], by simp [go_sem], by simp [go_sem], by simp [go_sem], by simp [go_sem]⟩⟩
              · have e0 : ((d : Int) == 0) = false := by rw [hc]; rfl
                have e1 : ((d : Int) == 1) = false := by rw [hc]; rfl
                have e2 : ((d : Int) == 2) = false := by rw [hc]; rfl
                have e3 : ((d : Int) == 3) = true := by rw [hc]; rfl
                clear hc
                go_wp2_with fail
                go_meet
                exact ⟨mkI, ⟨12, 1, 22, (n % 256), 167772161, 167772162, 1025, 80⟩, ⟨by first | decide | (dsimp only; omega), by first | decide | (dsimp only; omega), by first | decide | (dsimp only; omega), by first | decide | (dsimp only; omega), by first | decide | (dsimp only; omega), by first | decide | (dsimp only; omega), ⟨by first | decide | (dsimp only; omega), by first | decide | (dsimp only; omega), by first | decide | (dsimp only; omega), by first | decide | (dsimp only; omega), by first | decide | (dsimp only; omega), by first | decide | (dsimp only; omega), by first | decide | (dsimp only; omega), by first | decide | (dsimp only; omega), by first | decide | (dsimp only; omega), by first | decide | (dsimp only; omega)⟩⟩, ⟨by simp [go_sem], by simp [go_sem], by simp [go_sem], by simp [go_sem], by simp [go_sem], by simp [go_sem], by simp [go_sem], by simp [go_sem]⟩⟩
              · have e0 : ((d : Int) == 0) = false := by rw [hc]; rfl
                have e1 : ((d : Int) == 1) = false := by rw [hc]; rfl
                have e2 : ((d : Int) == 2) = false := by rw [hc]; rfl
                have e3 : ((d : Int) == 3) = false := by rw [hc]; rfl
                clear hc
                go_wp2_with fail
                go_meet
                exact ⟨mkI, ⟨12, 1, 22, 6, 167772161, 167772162, (n % 65536), 80⟩, ⟨by first | decide | (dsimp only; omega), by first | decide | (dsimp only; omega), by first | decide | (dsimp only; omega), by first | decide | (dsimp only; omega), by first | decide | (dsimp only; omega), by first | decide | (dsimp only; omega), ⟨by first | decide | (dsimp only; omega), by first | decide | (dsimp only; omega), by first | decide | (dsimp only; omega), by first | decide | (dsimp only; omega), by first | decide | (dsimp only; omega), by first | decide | (dsimp only; omega), by first | decide | (dsimp only; omega), by first | decide | (dsimp only; omega), by first | decide | (dsimp only; omega), by first | decide | (dsimp only; omega)⟩⟩, ⟨by simp [go_sem], by simp [go_sem], by simp [go_sem], by simp [go_sem], by simp [go_sem], by simp [go_sem], by simp [go_sem], by simp [go_sem]⟩⟩
            case rest =>
              obtain ⟨⟨x1, rfl⟩, e, eb, eP⟩ := hcut
              obtain ⟨p, hp⟩ : ∃ p, y.w.heap.size + 1 = p := ⟨_, rfl⟩
              rw [hp] at eP ⊢
              clear hp
              haveI := eP.lt
              obtain ⟨d0, d1, d2, d3, d4, d5, d6, d7⟩ := eP
              have hlen := textS_len e eb
              have h1 := fun w g => rtext_any e.n e.sd e.r e.pr e.s e.d e.sp e.dp w g eb.sd0 eb.sd1 eb.r0 eb.r1 eb.key
              generalize evTextS e.n e.sd e.r e.pr e.s e.d e.sp e.dp = st at *
              generalize evTextE e.n e.sd e.r e.pr e.s e.d e.sp e.dp = te at *
              have h2 := fun w g => evtexts_str e eb (n % 256) ⟨st.toArray⟩ w g (by show st.toArray.size < _; rw [List.size_toArray]; omega) (by omega) (by omega)
              have h3 : ∀ z : World, Gives Tryz.prog 7 #[.int .i64 2, .slice (some ⟨z.heap.size, 0, none⟩) 3 3, .int .i64 n] (z.alloc (.cells #[.int .i64 12, .int .u8 1, .int .u8 22, .int .u8 6, .int .u32 167772161, .int .u32 167772162, .int .u16 1025, .int .u16 80, .int .i64 e.n, .int .u8 e.sd, .int .u8 e.r, .int .u8 e.pr, .int .u32 e.s, .int .u32 e.d, .int .u16 e.sp, .int .u16 e.dp, .int .i64 13, .int .u8 0, .int .u8 3, .int .u8 0, .int .u32 0, .int .u32 0, .int .u16 0, .int .u16 0] 27)) (.bool true) := fun z => tells_any (z.alloc (.cells #[.int .i64 12, .int .u8 1, .int .u8 22, .int .u8 6, .int .u32 167772161, .int .u32 167772162, .int .u16 1025, .int .u16 80, .int .i64 e.n, .int .u8 e.sd, .int .u8 e.r, .int .u8 e.pr, .int .u32 e.s, .int .u32 e.d, .int .u16 e.sp, .int .u16 e.dp, .int .i64 13, .int .u8 0, .int .u8 3, .int .u8 0, .int .u32 0, .int .u32 0, .int .u16 0, .int .u16 0] 27)) 2 [evA, e, evBb] _ (cells3 (e0 := evA) (e1 := e) (e2 := evBb) (World.alloc_heap_new z (.cells #[.int .i64 12, .int .u8 1, .int .u8 22, .int .u8 6, .int .u32 167772161, .int .u32 167772162, .int .u16 1025, .int .u16 80, .int .i64 e.n, .int .u8 e.sd, .int .u8 e.r, .int .u8 e.pr, .int .u32 e.s, .int .u32 e.d, .int .u16 e.sp, .int .u16 e.dp, .int .i64 13, .int .u8 0, .int .u8 3, .int .u8 0, .int .u32 0, .int .u32 0, .int .u16 0, .int .u16 0] 27))) (fun x hx => by simp only [List.mem_cons, List.not_mem_nil, or_false] at hx; rcases hx with rfl | rfl | rfl; exact evA_b; exact eb; exact evB_b) (by simp) n n0 n1
              unfold Ev.val at h2
              clear eb hlen
              by_cases hn30 : n < 30
              · go_wp2_with (first
                | (go_at_call 5; refine (h1 _ (gW.good.up upI)).mono ?_; rintro e w' ⟨rfl, z1, rfl⟩)
                | (go_at_call 6; refine (h2 _ (gW.up upI)).mono ?_; rintro e w' ⟨rfl, z2, rfl⟩)
                | (go_at_call 7; (with_reducible refine (h3 _).mono ?_); rintro e w' ⟨rfl, z3, rfl⟩)
                | (go_at_call 7; (with_reducible refine (h4 _).mono ?_); rintro e w' ⟨rfl, z4, rfl⟩))
                go_roundw
                case rel => exact ⟨j + 1, by omega, by go_num, mkI⟩
                case measure => simp [intOf]; omega
              · have hn30' : 30 ≤ n := by omega
                clear hn30
                go_wp2_with (first
                | (go_at_call 5; refine (h1 _ (gW.good.up upI)).mono ?_; rintro e w' ⟨rfl, z1, rfl⟩)
                | (go_at_call 6; refine (h2 _ (gW.up upI)).mono ?_; rintro e w' ⟨rfl, z2, rfl⟩)
                | (go_at_call 7; (with_reducible refine (h3 _).mono ?_); rintro e w' ⟨rfl, z3, rfl⟩)
                | (go_at_call 7; (with_reducible refine (h4 _).mono ?_); rintro e w' ⟨rfl, z4, rfl⟩))
                go_roundw
                case rel => exact ⟨j + 1, by omega, by go_num, mkI⟩
                case measure => simp [intOf]; omega
          · have ht : Int.tmod (j : Int) 2 = 1 := by rw [Int.tmod_eq_emod_of_nonneg j0]; omega
            clear hp2
            go_upto_block 4 with fail
            go_cut [56] (fun _ wx => (∃ x : Ext W, wx = x.w) ∧ ∃ e : Ev, EvB e ∧ EvAt wx (y.w.heap.size + 1) e)
            case first =>
              clear h4
              rcases (by omega : d = 0 ∨ d = 1 ∨ d = 2 ∨ d = 3 ∨ d = 4) with hc | hc | hc | hc | hc
              · have e0 : ((d : Int) == 0) = true := by rw [hc]; rfl
                clear hc
                go_wp2_with fail
                go_meet
                exact ⟨mkI, ⟨n, 0, 3, 0, 0, 0, 0, 0⟩, ⟨by first | decide | (dsimp only; omega), by first | decide | (dsimp only; omega), by first | decide | (dsimp only; omega), by first | decide | (dsimp only; omega), by first | decide | (dsimp only; omega), by first | decide | (dsimp only; omega), ⟨by first | decide | (dsimp only; omega), by first | decide | (dsimp only; omega), by first | decide | (dsimp only; omega), by first | decide | (dsimp only; omega), by first | decide | (dsimp only; omega), by first | decide | (dsimp only; omega), by first | decide | (dsimp only; omega), by first | decide | (dsimp only; omega), by first | decide | (dsimp only; omega), by first | decide | (dsimp only; omega)⟩⟩, ⟨by simp [go_sem], by simp [go_sem], by simp [go_sem], by simp [go_sem], by simp [go_sem], by simp [go_sem], by simp [go_sem], by simp [go_sem]⟩⟩
              · have e0 : ((d : Int) == 0) = false := by rw [hc]; rfl
                have e1 : ((d : Int) == 1) = true := by rw [hc]; rfl
                clear hc
                go_wp2_with fail
                go_meet
                exact ⟨mkI, ⟨13, (n % 256), 3, 0, 0, 0, 0, 0⟩, ⟨by first | decide | (dsimp only; omega), by first | decide | (dsimp only; omega), by first | decide | (dsimp only; omega), by first | decide | (dsimp only; omega), by first | decide | (dsimp only; omega), by first | decide | (dsimp only; omega), ⟨by first | decide | (dsimp only; omega), by first | decide | (dsimp only; omega), by first | decide | (dsimp only; omega), by first | decide | (dsimp only; omega), by first | decide | (dsimp only; omega), by first | decide | (dsimp only; omega), by first | decide | (dsimp only; omega), by first | decide | (dsimp only; omega), by first | decide | (dsimp only; omega), by first | decide | (dsimp only; omega)⟩⟩, ⟨by simp [go_sem], by simp [go_sem], by simp [go_sem], by simp [go_sem], by simp [go_sem], by simp [go_sem], by simp [go_sem], by simp [go_sem]⟩⟩
              · have e0 : ((d : Int) == 0) = false := by rw [hc]; rfl
                have e1 : ((d : Int) == 1) = false := by rw [hc]; rfl
                have e2 : ((d : Int) == 2) = true := by rw [hc]; rfl
                clear hc
                go_wp2_with fail
                go_meet
                exact ⟨mkI, ⟨13, 0, (n % 256), 0, 0, 0, 0, 0⟩, ⟨by first | decide | (dsimp only; omega), by first | decide | (dsimp only; omega), by first | decide | (dsimp only; omega), by first | decide | (dsimp only; omega), by first | decide | (dsimp only; omega), by first | decide | (dsimp only; omega), ⟨by first | decide | (dsimp only; omega), by first | decide | (dsimp only; omega), by first | decide | (dsimp only; omega), by first | decide | (dsimp only; omega), by first | decide | (dsimp only; omega), by first | decide | (dsimp only; omega), by first | decide | (dsimp only; omega), by first | decide | (dsimp only; omega), by first | decide | (dsimp only; omega), by first | decide | (dsimp only; omega)⟩⟩, ⟨by simp [go_sem], by simp [go_sem], by simp [go_sem], by simp [go_sem], by simp [go_sem], by simp [go_sem], by simp [go_sem], by simp [go_sem]⟩⟩
              · have e0 : ((d : Int) == 0) = false := by rw [hc]; rfl
                have e1 : ((d : Int) == 1) = false := by rw [hc]; rfl
                have e2 : ((d : Int) == 2) = false := by rw [hc]; rfl
                have e3 : ((d : Int) == 3) = true := by rw [hc]; rfl
                clear hc
                go_wp2_with fail
                go_meet
                exact ⟨mkI, ⟨13, 0, 3, (n % 256), 0, 0, 0, 0⟩, ⟨by first | decide | (dsimp only; omega), by first | decide | (dsimp only; omega), by first | decide | (dsimp only; omega), by first | decide | (dsimp only; omega), by first | decide | (dsimp only; omega), by first | decide | (dsimp only; omega), ⟨by first | decide | (dsimp only; omega), by first | decide | (dsimp only; omega), by first | decide | (dsimp only; omega), by first | decide | (dsimp only; omega), by first | decide | (dsimp only; omega), by first | decide | (dsimp only; omega), by first | decide | (dsimp only; omega), by first | decide | (dsimp only; omega), by first | decide | (dsimp only; omega), by first | decide | (dsimp only; omega)⟩⟩, ⟨by simp [go_sem], by simp [go_sem], by simp [go_sem], by simp [go_sem], by simp [go_sem], by simp [go_sem], by simp [go_sem], by simp [go_sem]⟩⟩
              · have e0 : ((d : Int) == 0) = false := by rw [hc]; rfl
                have e1 : ((d : Int) == 1) = false := by rw [hc]; rfl
                have e2 : ((d : Int) == 2) = false := by rw [hc]; rfl
                have e3 : ((d : Int) == 3) = false := by rw [hc]; rfl
                clear hc
                go_wp2_with fail
                go_meet
                exact ⟨mkI, ⟨13, 0, 3, 0, 0, 0, (n % 65536), 0⟩, ⟨by first | decide | (dsimp only; omega), by first | decide | (dsimp only; omega), by first | decide | (dsimp only; omega), by first | decide | (dsimp only; omega), by first | decide | (dsimp only; omega), by first | decide | (dsimp only; omega), ⟨by first | decide | (dsimp only; omega), by first | decide | (dsimp only; omega), by first | decide | (dsimp only; omega), by first | decide | (dsimp only; omega), by first | decide | (dsimp only; omega), by first | decide | (dsimp only; omega), by first | decide | (dsimp only; omega), by first | decide | (dsimp only; omega), by first | decide | (dsimp only; omega), by first | decide | (dsimp only; omega)⟩⟩, ⟨by simp [go_sem], by simp [go_sem], by simp [go_sem], by simp [go_sem], by simp [go_sem], by simp [go_sem], by simp [go_sem], by simp [go_sem]⟩⟩
            case rest =>
              obtain ⟨⟨x1, rfl⟩, e, eb, eP⟩ := hcut
              obtain ⟨p, hp⟩ : ∃ p, y.w.heap.size + 1 = p := ⟨_, rfl⟩
              rw [hp] at eP ⊢
              clear hp
              haveI := eP.lt
              obtain ⟨d0, d1, d2, d3, d4, d5, d6, d7⟩ := eP
              have hlen := textS_len e eb
              have h1 := fun w g => rtext_any e.n e.sd e.r e.pr e.s e.d e.sp e.dp w g eb.sd0 eb.sd1 eb.r0 eb.r1 eb.key
              generalize evTextS e.n e.sd e.r e.pr e.s e.d e.sp e.dp = st at *
              generalize evTextE e.n e.sd e.r e.pr e.s e.d e.sp e.dp = te at *
              have h2 := fun w g => evtexts_str e eb (n % 256) ⟨st.toArray⟩ w g (by show st.toArray.size < _; rw [List.size_toArray]; omega) (by omega) (by omega)
              have h3 : ∀ z : World, Gives Tryz.prog 7 #[.int .i64 2, .slice (some ⟨z.heap.size, 0, none⟩) 3 3, .int .i64 n] (z.alloc (.cells #[.int .i64 12, .int .u8 1, .int .u8 22, .int .u8 6, .int .u32 167772161, .int .u32 167772162, .int .u16 1025, .int .u16 80, .int .i64 e.n, .int .u8 e.sd, .int .u8 e.r, .int .u8 e.pr, .int .u32 e.s, .int .u32 e.d, .int .u16 e.sp, .int .u16 e.dp, .int .i64 13, .int .u8 0, .int .u8 3, .int .u8 0, .int .u32 0, .int .u32 0, .int .u16 0, .int .u16 0] 27)) (.bool true) := fun z => tells_any (z.alloc (.cells #[.int .i64 12, .int .u8 1, .int .u8 22, .int .u8 6, .int .u32 167772161, .int .u32 167772162, .int .u16 1025, .int .u16 80, .int .i64 e.n, .int .u8 e.sd, .int .u8 e.r, .int .u8 e.pr, .int .u32 e.s, .int .u32 e.d, .int .u16 e.sp, .int .u16 e.dp, .int .i64 13, .int .u8 0, .int .u8 3, .int .u8 0, .int .u32 0, .int .u32 0, .int .u16 0, .int .u16 0] 27)) 2 [evA, e, evBb] _ (cells3 (e0 := evA) (e1 := e) (e2 := evBb) (World.alloc_heap_new z (.cells #[.int .i64 12, .int .u8 1, .int .u8 22, .int .u8 6, .int .u32 167772161, .int .u32 167772162, .int .u16 1025, .int .u16 80, .int .i64 e.n, .int .u8 e.sd, .int .u8 e.r, .int .u8 e.pr, .int .u32 e.s, .int .u32 e.d, .int .u16 e.sp, .int .u16 e.dp, .int .i64 13, .int .u8 0, .int .u8 3, .int .u8 0, .int .u32 0, .int .u32 0, .int .u16 0, .int .u16 0] 27))) (fun x hx => by simp only [List.mem_cons, List.not_mem_nil, or_false] at hx; rcases hx with rfl | rfl | rfl; exact evA_b; exact eb; exact evB_b) (by simp) n n0 n1
              unfold Ev.val at h2
              clear eb hlen
              by_cases hn30 : n < 30
              · go_wp2_with (first
                | (go_at_call 5; refine (h1 _ (gW.good.up upI)).mono ?_; rintro e w' ⟨rfl, z1, rfl⟩)
                | (go_at_call 6; refine (h2 _ (gW.up upI)).mono ?_; rintro e w' ⟨rfl, z2, rfl⟩)
                | (go_at_call 7; (with_reducible refine (h3 _).mono ?_); rintro e w' ⟨rfl, z3, rfl⟩)
                | (go_at_call 7; (with_reducible refine (h4 _).mono ?_); rintro e w' ⟨rfl, z4, rfl⟩))
                go_roundw
                case rel => exact ⟨j + 1, by omega, by go_num, mkI⟩
                case measure => simp [intOf]; omega
              · have hn30' : 30 ≤ n := by omega
                clear hn30
                go_wp2_with (first
                | (go_at_call 5; refine (h1 _ (gW.good.up upI)).mono ?_; rintro e w' ⟨rfl, z1, rfl⟩)
                | (go_at_call 6; refine (h2 _ (gW.up upI)).mono ?_; rintro e w' ⟨rfl, z2, rfl⟩)
                | (go_at_call 7; (with_reducible refine (h3 _).mono ?_); rintro e w' ⟨rfl, z3, rfl⟩)
                | (go_at_call 7; (with_reducible refine (h4 _).mono ?_); rintro e w' ⟨rfl, z4, rfl⟩))
                go_roundw
                case rel => exact ⟨j + 1, by omega, by go_num, mkI⟩
                case measure => simp [intOf]; omega
        · obtain rfl : j = 10 := by omega
          go_wp2_with fail
          go_roundw
          case rel => exact ⟨k + 1, by omega, by go_num, mkI⟩
          case measure => simp [intOf]; omega
    -- loop 1 left
    · have hk' : (18 : Int) ≤ (k : Int) := by omega
      clear hN hlt hk
      go_wp2_with fail
      go_loopw [112] (fun i wr => ∃ r : Nat, r ≤ 256 ∧ i = .int .i64 (r : Int) ∧ ∃ y : Ext W, wr = y.w) (fun i _ => 256 - (intOf i).toNat)
      case atStart => exact ⟨0, by omega, rfl, ⟨x, rfl⟩⟩
      case round =>
        obtain ⟨r, hr, rfl, y, rfl⟩ := hrel
        by_cases hrl : r < 256
        · have hr' : (r : Int) < 256 := by omega
          have r0 : (0 : Int) ≤ (r : Int) := by omega
          have hmod : (r : Int) % 256 = (r : Int) := by omega
          have eb : EvB ⟨13, 0, (r : Int), 0, 0, 0, 0, 0⟩ := ⟨by first | decide | (dsimp only; omega), by first | decide | (dsimp only; omega), by first | decide | (dsimp only; omega), by first | decide | (dsimp only; omega), by first | decide | (dsimp only; omega), by first | decide | (dsimp only; omega), ⟨by first | decide | (dsimp only; omega), by first | decide | (dsimp only; omega), by first | decide | (dsimp only; omega), by first | decide | (dsimp only; omega), by first | decide | (dsimp only; omega), by first | decide | (dsimp only; omega), by first | decide | (dsimp only; omega), by first | decide | (dsimp only; omega), by first | decide | (dsimp only; omega), by first | decide | (dsimp only; omega)⟩⟩
          have h1 := fun w => rname_any (r : Int) w r0 hr'
          have hnl := nameOf_len (r : Int)
          generalize nameOf (r : Int) = nm at *
          generalize nameE (r : Int) = ne at *
          have h2 := fun s w g hl => evtexts_str ⟨13, 0, (r : Int), 0, 0, 0, 0, 0⟩ eb (r : Int) s w g hl r0 hr'
          have h3 := fun s w g hl => evtexts_str evA evA_b 0 s w g hl (by decide) (by decide)
          unfold Ev.val at h2 h3
          simp only [evA] at h2 h3
          have hs : (⟨nm.toArray⟩ : ByteArray).size ≤ 100 := by show nm.toArray.size ≤ 100; rw [List.size_toArray]; exact hnl
          generalize (⟨nm.toArray⟩ : ByteArray) = nb at *
          clear eb hnl
          go_wp2_with (first
            | (go_at_call 8; refine (h1 _).mono ?_; rintro e w' ⟨rfl, z1, rfl⟩)
            | (go_at_call 6; (with_reducible refine (h2 _ _ (gW.up upI) ?_).mono ?_); (simp only [ByteArray.size_append, bsz]; simp only [List.size_toArray, List.length_cons, List.length_nil]; omega); rintro e w' ⟨rfl, z2, rfl⟩)
            | (go_at_call 6; (with_reducible refine (h3 _ _ (gW.up upI) (by omega)).mono ?_); rintro e w' ⟨rfl, z3, rfl⟩))
          go_roundw
          case rel => exact ⟨r + 1, by omega, by go_num, mkI⟩
          case measure => simp [intOf]; omega
        · have hr' : (256 : Int) ≤ (r : Int) := by omega
          clear hr hrl
          go_wp2_with fail
          -- loop 3 left: the loops over [a, b]
          clear hr'
          refine wp_letter (fun W2 => UpI W W2 ∧ EvRow W2 (.slice (some ⟨y.w.heap.size, 0, none⟩) 2 2) [evA, evBb]) ⟨inferInstance, cells2 (e0 := evA) (e1 := evBb) (World.alloc_heap_new y.w (.cells #[.int .i64 12, .int .u8 1, .int .u8 22, .int .u8 6, .int .u32 167772161, .int .u32 167772162, .int .u16 1025, .int .u16 80, .int .i64 13, .int .u8 0, .int .u8 3, .int .u8 0, .int .u32 0, .int .u32 0, .int .u16 0, .int .u16 0] 27))⟩ ?_
          rintro W2 ⟨u2, hrow⟩
          obtain ⟨L2, hL2⟩ : ∃ L2, y.w.heap.size = L2 := ⟨_, rfl⟩
          rw [hL2] at hrow ⊢
          clear hL2
          have gV := gW.up u2.up
          go_loopw [154] (fun i wr => ∃ q : Nat, q ≤ 2 ∧ i = .int .i64 (q : Int) ∧ ∃ z : Ext W2, wr = z.w) (fun i _ => 2 - (intOf i).toNat)
          case atStart => exact ⟨0, by omega, rfl, (Up.refl W2).mk⟩
          case round =>
            obtain ⟨q, hq, rfl, z, rfl⟩ := hrel
            by_cases hql : q < 2
            · have hq2 : (q : Int) < 2 := by omega
              have q0 : (0 : Int) ≤ (q : Int) := by omega
              obtain ⟨pr, cr, hpr, hc⟩ := hrow
              obtain ⟨b, o, hbo, hb, hd⟩ := hc q (by simpa using hql)
              clear hc
              subst hbo
              simp only [Value.slice.injEq, Option.some.injEq, Addr.mk.injEq, and_true] at hpr
              obtain ⟨⟨rfl, rfl⟩, _⟩ := hpr
              obtain ⟨e, he, eb⟩ : ∃ e : Ev, ([evA, evBb] : List Ev)[q]? = some e ∧ EvB e := by
                rcases (by omega : q = 0 ∨ q = 1) with rfl | rfl
                · exact ⟨evA, rfl, evA_b⟩
                · exact ⟨evBb, rfl, evB_b⟩
              simp only [he, Option.bind_some, Nat.zero_add] at hd
              have c0 := hd 0 _ rfl; have c1 := hd 1 _ rfl; have c2 := hd 2 _ rfl; have c3 := hd 3 _ rfl; have c4 := hd 4 _ rfl; have c5 := hd 5 _ rfl; have c6 := hd 6 _ rfl; have c7 := hd 7 _ rfl
              rw [Nat.add_zero] at c0
              haveI : LtSize L2 W2 := ⟨hb⟩
              have h1 := fun w g => rtext_any e.n e.sd e.r e.pr e.s e.d e.sp e.dp w g eb.sd0 eb.sd1 eb.r0 eb.r1 eb.key
              have hlen := textS_len e eb
              generalize evTextS e.n e.sd e.r e.pr e.s e.d e.sp e.dp = st at *
              generalize evTextE e.n e.sd e.r e.pr e.s e.d e.sp e.dp = te at *
              have hs : (⟨st.toArray⟩ : ByteArray).size ≤ 500 := by show st.toArray.size ≤ 500; rw [List.size_toArray]; exact hlen
              generalize (⟨st.toArray⟩ : ByteArray) = sb at *
              have h2 := Lib.hid (fun s w g hl => evtexts_str e eb 0 s w g hl (by decide) (by decide))
              unfold Ev.val at h2
              clear hd he eb hlen hq hql
              go_wp2_with (first
                | (go_at_call 5; refine (h1 _ (gV.good.up upI)).mono ?_; rintro e w' ⟨rfl, z1, rfl⟩))
              -- loop 5
              refine wp_letter (fun W3 => UpI W2 W3 ∧ EvAt W3 z.w.heap.size e ∧ z.w.heap.size < W3.heap.size) ⟨inferInstance, ⟨by simp [go_sem], by simp [go_sem], by simp [go_sem], by simp [go_sem], by simp [go_sem], by simp [go_sem], by simp [go_sem], by simp [go_sem]⟩, (inferInstance : LtSize z.w.heap.size _).lt⟩ ?_
              rintro W3 ⟨u3, e3, l3⟩
              haveI : LtSize z.w.heap.size W3 := ⟨l3⟩
              obtain ⟨B3, hB3⟩ : ∃ B3, z.w.heap.size = B3 := ⟨_, rfl⟩
              rw [hB3] at e3 l3 ⊢
              haveI : LtSize B3 W3 := ⟨l3⟩
              clear hB3
              obtain ⟨d0, d1, d2, d3, d4, d5, d6, d7⟩ := e3
              have gW3 := gV.up u3.up
              clear h1
              go_loopw [17] (fun i wr => ∃ p : Nat, p ≤ sb.size + 1 ∧ i = .int .i64 (p : Int) ∧ ∃ y : Ext W3, wr = y.w) (fun i _ => sb.size + 1 - (intOf i).toNat)
              case atStart => exact ⟨0, by omega, rfl, (Up.refl W3).mk⟩
              case round =>
                obtain ⟨p, hp, rfl, y3, rfl⟩ := hrel
                by_cases hpl : p ≤ sb.size
                · have hp2 : (p : Int) ≤ (sb.size : Int) := by omega
                  have p0 : (0 : Int) ≤ (p : Int) := by omega
                  go_wp2_with fail
                  refine wp_letter (fun W4 => UpI W3 W4 ∧ ∀ j : Nat, j < 8 → ∃ t : ByteArray, W4.cell? ⟨y3.w.heap.size, j, none⟩ = some (.string t) ∧ t.size ≤ 1) ⟨inferInstance, fun j hj => by
                      rcases (by omega : j = 0 ∨ j = 1 ∨ j = 2 ∨ j = 3 ∨ j = 4 ∨ j = 5 ∨ j = 6 ∨ j = 7) with rfl | rfl | rfl | rfl | rfl | rfl | rfl | rfl
                      · exact ⟨⟨#[]⟩, by simp [go_sem], by decide⟩
                      · exact ⟨⟨#[48]⟩, by simp [go_sem], by decide⟩
                      · exact ⟨⟨#[49]⟩, by simp [go_sem], by decide⟩
                      · exact ⟨⟨#[32]⟩, by simp [go_sem], by decide⟩
                      · exact ⟨⟨#[45]⟩, by simp [go_sem], by decide⟩
                      · exact ⟨⟨#[46]⟩, by simp [go_sem], by decide⟩
                      · exact ⟨⟨#[58]⟩, by simp [go_sem], by decide⟩
                      · exact ⟨⟨#[110]⟩, by simp [go_sem], by decide⟩⟩ ?_
                  rintro W4 ⟨u4, h4⟩
                  obtain ⟨B4, hB4⟩ : ∃ B4, y3.w.heap.size = B4 := ⟨_, rfl⟩
                  rw [hB4] at h4 ⊢
                  clear hB4
                  have gW4 := gW3.up u4.up
                  have d0 := u4.up.cell_some' d0; have d1 := u4.up.cell_some' d1; have d2 := u4.up.cell_some' d2; have d3 := u4.up.cell_some' d3; have d4 := u4.up.cell_some' d4; have d5 := u4.up.cell_some' d5; have d6 := u4.up.cell_some' d6; have d7 := u4.up.cell_some' d7
                  haveI : LtSize B3 W4 := ⟨cell_lt' d0⟩
                  obtain ⟨mn, hmin, hmn⟩ : ∃ mn : Nat, min ((p : Int) + 1) (sb.size : Int) = (mn : Int) ∧ mn ≤ sb.size := by
                    by_cases h : p + 1 ≤ sb.size
                    · exact ⟨p + 1, by omega, h⟩
                    · exact ⟨sb.size, by omega, Nat.le_refl _⟩
                  have hmn' : (mn : Int) ≤ (sb.size : Int) := by omega
                  have mn0 : (0 : Int) ≤ (mn : Int) := by omega
                  go_loopw [171] (fun i wr => ∃ j : Nat, j ≤ 8 ∧ i = .int .i64 (j : Int) ∧ ∃ y : Ext W4, wr = y.w) (fun i _ => 8 - (intOf i).toNat)
                  case atStart => exact ⟨0, by omega, rfl, (Up.refl W4).mk⟩
                  case round =>
                    obtain ⟨j, hj, rfl, v4, rfl⟩ := hrel
                    by_cases hjl : j < 8
                    · have hjl' : (j : Int) < 8 := by omega
                      have j0 : (0 : Int) ≤ (j : Int) := by omega
                      obtain ⟨t, ct, ht⟩ := h4 j hjl
                      haveI : LtSize B4 W4 := ⟨cell_lt' ct⟩
                      clear h4
                      go_wp2_with fail
                      (refine wp_region_ext (by kernel_rfl) (by kernel_rfl) ?_; (repeat (go_big_quiet_step ((go_at_call 6; exact (h2.out _ _ (gW4.up upI) (by simp only [ByteArray.size_append, ByteArray.size_extract]; omega)).ext)))); refine wpQuiet_nil ?_; rintro _ ⟨y4, rfl⟩)
                      go_wp2_with fail
                      go_roundw
                      case rel => exact ⟨j + 1, by omega, by go_num, mkI⟩
                      case measure => simp [intOf]; omega
                    · have hj' : (8 : Int) ≤ (j : Int) := by omega
                      clear hj hjl h4
                      go_wp2_with fail
                      go_roundw
                      case rel => exact ⟨p + 1, by omega, by go_num, mkI⟩
                      case measure => simp [intOf]; omega
                · have hp2 : (sb.size : Int) < (p : Int) := by omega
                  go_wp2_with fail
                  go_roundw
                  case rel => exact ⟨q + 1, by omega, by go_num, mkI⟩
                  case measure => simp [intOf]; omega
            · have hq' : (2 : Int) ≤ (q : Int) := by omega
              clear hq hql hrow
              go_wp2_with fail
              -- loop 7
              refine wp_letter (fun W5 => UpI W W5) inferInstance ?_
              intro W5 u5
              have gW5 := gW.up u5.up
              go_loopw [20] (fun i wr => ∃ s : Nat, 1 ≤ s ∧ s ≤ 7 ∧ i = .int .i64 (s : Int) ∧ ∃ y : Ext W5, wr = y.w) (fun i _ => 7 - (intOf i).toNat)
              case atStart => exact ⟨1, by omega, by omega, rfl, (Up.refl W5).mk⟩
              case round =>
                obtain ⟨s, hs0, hs1, rfl, y5, rfl⟩ := hrel
                by_cases hsl : s < 7
                · have hs' : (s : Int) < 7 := by omega
                  have s0 : (0 : Int) ≤ (s : Int) := by omega
                  go_wp2_with fail
                  obtain ⟨i0, hi, hy0, hy1, hy2⟩ := info_parts infoEvent
                  have Hi := Lib.hid hi; have Hy0 := Lib.hid hy0; have Hy1 := Lib.hid hy1; have Hy2 := Lib.hid hy2
                  clear hi hy0 hy1 hy2
                  go_loopw [21, 219] (fun out i wr => ∃ k : Nat, k ≤ 20 ∧ i = .int .i64 (k : Int) ∧ Hid (wr.ownsRow y5.w.heap.size 27 8 out k (evCells (smL k))) ∧ ∃ z : Ext y5.w, wr = z.w) (fun _ i _ => 20 - (intOf i).toNat)
                  case atStart => exact ⟨0, by omega, rfl, Lib.hid (World.ownsRow_nil _ _ _ _), mkI⟩
                  case round =>
                    obtain ⟨k, hk, rfl, Hown, x6, rfl⟩ := hrel
                    by_cases hkl : k < 20
                    · have hkl' : (k : Int) < 20 := by omega
                      have k0 : (0 : Int) ≤ (k : Int) := by omega
                      have E2 := Lib.hid (show evCells (smL (k + 1)) = evCells (smL k) ++ (smE k).cells by rw [smL_snoc, evCells_snoc])
                      have hall := Lib.hid (smL_b (k + 1) (by omega))
                      have hln := Lib.hid (smL_length (k + 1))
                      have t1 : Int.tdiv (k : Int) 3 = ((k / 3 : Nat) : Int) := by rw [Int.tdiv_eq_ediv_of_nonneg k0]; omega
                      have t2 : Int.tmod (k : Int) 7 = ((k % 7 : Nat) : Int) := by rw [Int.tmod_eq_emod_of_nonneg k0]; omega
                      have t3 : Int.tdiv ((k % 7 : Nat) : Int) 6 = ((k % 7 / 6 : Nat) : Int) := by rw [Int.tdiv_eq_ediv_of_nonneg (by omega)]; omega
                      have t4 : Int.tmod (k : Int) 4 = ((k % 4 : Nat) : Int) := by rw [Int.tmod_eq_emod_of_nonneg k0]; omega
                      obtain ⟨ea, hea⟩ : ∃ ea : Int, ((k / 3 : Nat) : Int) = ea := ⟨_, rfl⟩
                      obtain ⟨eb, heb⟩ : ∃ eb : Int, ((k % 7 : Nat) : Int) = eb := ⟨_, rfl⟩
                      obtain ⟨ec, hec⟩ : ∃ ec : Int, ((k % 7 / 6 : Nat) : Int) = ec := ⟨_, rfl⟩
                      obtain ⟨ed, hed⟩ : ∃ ed : Int, ((k % 4 : Nat) : Int) = ed := ⟨_, rfl⟩
                      have a0 : 0 ≤ ea := by omega
                      have a1 : ea ≤ 6 := by omega
                      have b0 : 0 ≤ eb := by omega
                      have b1 : eb ≤ 6 := by omega
                      have c0 : 0 ≤ ec := by omega
                      have c1 : ec ≤ 1 := by omega
                      have d0 : 0 ≤ ed := by omega
                      have d1 : ed ≤ 3 := by omega
                      have d2 : (1 + ed) % 256 = 1 + ed := by omega
                      have hE := Lib.hid (show smE k = ⟨ea - ec, 0, 1 + ed, 0, 0, 0, 0, 0⟩ by unfold smE; rw [hea, hec, hed])
                      rw [hea] at t1; rw [heb] at t2; rw [heb, hec] at t3; rw [hed] at t4
                      clear hea heb hec hed
                      rw [hE.out] at E2
                      clear hE
                      generalize evCells (smL k) = cs at *
                      go_wp2_with (first
                        | (at_builtin; refine wpList_append_own _ rfl _ _ 31 rfl y5.w.heap.size 27 i0 Ev.zero.val 8 32 Tryz.underlying31 Hi.out Hy0.out Hy1.out Hy2.out rfl (by decide) _ _ _ rfl (owns_up Hown.out (upI : Up x6.w _)) ⟨_, 0, none⟩ 1 1 (Ev.mk (ea - ec) 0 (1 + ed) 0 0 0 0 0).cells rfl rfl ?c1 ?c2 ?c3 ?c4 ?c5 ?_))
                      case c1 =>
                        intro j u hj
                        have hj8 : j < 8 := (List.getElem?_eq_some_iff.1 hj).1
                        rcases (by omega : j = 0 ∨ j = 1 ∨ j = 2 ∨ j = 3 ∨ j = 4 ∨ j = 5 ∨ j = 6 ∨ j = 7) with rfl | rfl | rfl | rfl | rfl | rfl | rfl | rfl
                        all_goals (simp [Ev.cells] at hj; subst hj; simp [Addr.add, go_sem])
                      case c2 =>
                        intro u hu
                        simp [Ev.cells] at hu
                        rcases hu with rfl | rfl | rfl | rfl | rfl | rfl | rfl | rfl <;> rfl
                      case c3 => unfold maxLen; omega
                      case c4 => omega
                      case c5 => exact (upI : Up y5.w _).size
                      intro v' w1 hown' hgrow _
                      have hu1 : Up y5.w w1 := Up.grown (upI : Up y5.w _) hgrow (owns_row Hown.out)
                      obtain ⟨x7, rfl⟩ := hu1.mk
                      rw [← E2.out] at hown'
                      have Hown' := Lib.hid hown'
                      have hrow := Lib.hid (EvRow.of_owns (show World.ownsRow x7.w y5.w.heap.size 27 8 v' (smL (k + 1)).length (evCells (smL (k + 1))) by rw [hln.out]; exact hown'))
                      clear hown' hgrow Hown hu1
                      have h5 := fun w (u : UpI x7.w w) => tells_any w (s : Int) (smL (k + 1)) v' (hrow.out.up u.up) hall.out (by rw [hln.out]; omega) ((k : Int) - 3) (by omega) (by omega)
                      go_wp2_with (go_at_call 7; refine (h5 _ inferInstance).mono ?_; rintro e w' ⟨rfl, z6, rfl⟩)
                      go_roundw
                      case rel => exact ⟨k + 1, by omega, by go_num, Lib.hid (owns_up Hown'.out upI), mkI⟩
                      case measure => simp [intOf]; omega
                    · have hk' : (20 : Int) ≤ (k : Int) := by omega
                      clear hk hkl
                      go_wp2_with fail
                      go_roundw
                      case rel => exact ⟨s + 1, by omega, by omega, by go_num, mkI⟩
                      case measure => simp [intOf]; omega
                · have hs' : (7 : Int) ≤ (s : Int) := by omega
                  clear hs0 hs1 hsl
                  go_wp2_with fail
                  -- loop 9
                  clear hs'
                  refine wp_letter (fun W6 => UpI W5 W6 ∧ ∀ j : Nat, j < 2 → ∃ p : Option Addr, W6.cell? ⟨y5.w.heap.size + 1, j, none⟩ = some (.pointer p) ∧ ∀ W', UpI W6 W' → Gives Tryz.prog 31 #[.pointer p] W' (.bool true)) ⟨inferInstance, fun j hj => by
                      rcases (by omega : j = 0 ∨ j = 1) with rfl | rfl
                      · exact ⟨none, by simp [go_sem], none_nil _⟩
                      · exact ⟨some ⟨y5.w.heap.size, 0, none⟩, by simp [go_sem], none_empty _ _ (by simp [go_sem])⟩⟩ ?_
                  rintro W6 ⟨u6, hP⟩
                  obtain ⟨L6, hL6⟩ : ∃ L6, y5.w.heap.size = L6 := ⟨_, rfl⟩
                  rw [hL6] at hP ⊢
                  clear hL6
                  have gW6 := gW5.up u6.up
                  haveI : UpI w W6 := ⟨(uW.up.trans u5.up).trans u6.up⟩
                  go_loopw [248] (fun i wr => ∃ j : Nat, j ≤ 2 ∧ i = .int .i64 (j : Int) ∧ ∃ x : Ext W6, wr = x.w) (fun i _ => 2 - (intOf i).toNat)
                  case atStart => exact ⟨0, by omega, rfl, (Up.refl W6).mk⟩
                  case round =>
                    obtain ⟨j, hj, rfl, x6, rfl⟩ := hrel
                    by_cases hjl : j < 2
                    · have hjl' : (j : Int) < 2 := by omega
                      have j0 : (0 : Int) ≤ (j : Int) := by omega
                      obtain ⟨p, cp, hp⟩ := hP j hjl
                      haveI : LtSize (L6 + 1) W6 := ⟨cell_lt' cp⟩
                      clear hP
                      have up : ∀ W, UpI W6 W → ∀ W', UpI W W' → Gives Tryz.prog 31 #[.pointer p] W' (.bool true) := fun W u W' u' => hp W' ⟨u.up.trans u'.up⟩
                      have n1 := fun W (u : UpI W6 W) => none_put W p (up W u) Ev.zero
                      have n2 := fun W (u : UpI W6 W) => none_get W p (up W u)
                      have n3 := fun W (u : UpI W6 W) => none_total W p (up W u)
                      have n4 := fun W (u : UpI W6 W) => none_len W p (up W u)
                      have n5 := fun W (u : UpI W6 W) => none_count W p (up W u) 1
                      have n6 := fun W (u : UpI W6 W) => none_list W p (up W u)
                      have n7 := fun W (u : UpI W6 W) => none_since W p (up W u) 0
                      have n8 := fun W (u : UpI W6 W) => none_where W p (up W u) 1
                      unfold Ev.val Ev.zero at n1 n2
                      have hE0 : evB 0 0 0 0 0 0 0 0 0 0 0 0 0 0 0 0 = true := by decide
                      clear up hp
                      go_wp2_with (first
                        | (go_at_call 9; refine (n1 _ inferInstance).mono ?_; rintro e w' ⟨rfl, z1, rfl⟩)
                        | (go_at_call 10; refine (n2 _ inferInstance).mono ?_; rintro e w' ⟨rfl, z2, rfl⟩)
                        | (go_at_call 11; refine (n3 _ inferInstance).mono ?_; rintro e w' ⟨rfl, z3, rfl⟩)
                        | (go_at_call 12; refine (n4 _ inferInstance).mono ?_; rintro e w' ⟨rfl, z4, rfl⟩)
                        | (go_at_call 13; refine (n5 _ inferInstance).mono ?_; rintro e w' ⟨rfl, z5, rfl⟩)
                        | (go_at_call 14; refine (n6 _ inferInstance).mono ?_; rintro e w' ⟨rfl, z6, rfl⟩)
                        | (go_at_call 15; refine (n7 _ inferInstance).mono ?_; rintro e w' ⟨rfl, z7, rfl⟩)
                        | (go_at_call 16; refine (n8 _ inferInstance).mono ?_; rintro e w' ⟨rfl, z8, rfl⟩))
                      go_roundw
                      case rel => exact ⟨j + 1, by omega, by go_num, mkI⟩
                      case measure => simp [intOf]; omega
                    · have hj' : (2 : Int) ≤ (j : Int) := by omega
                      clear hj hjl hP
                      go_wp2_with (go_at_call 17; refine (awake_any _ (gW6.up upI)).mono ?_; rintro e w' ⟨rfl, z9, rfl⟩)
                      go_ret
                      exact ⟨rfl, mkI⟩
end Go.Proofs.YtngmcljkmcdlmaaGreatDoor
