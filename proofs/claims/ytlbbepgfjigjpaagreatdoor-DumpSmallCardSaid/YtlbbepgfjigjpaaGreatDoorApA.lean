/- The reference's Apply: the walk up to the long test; behind it (1). -/
import Derived.Test.YtlbbepgfjigjpaaGreatDoorRfB
import Derived.Test.YtlbbepgfjigjpaaGreatDoorLF
import Derived.Test.YtlbbepgfjigjpaaGreatDoorDApp
import Derived.Test.YtlbbepgfjigjpaaGreatDoorDAw
set_option linter.unusedSimpArgs false
set_option linter.unusedVariables false
namespace Go.Ab
open Go.RowKit Go.Proofs.YtlbbepgfjigjpaaGreatDoor
def prevOf (l : List Ch) (k : Nat) : Option Ch := if k = 0 then none else l[k - 1]?
theorem apFrom_cons (prev : Option Ch) (out rest : List Ln) (c : Ch) (t : List Ch) : apFrom prev out rest (c :: t) = if kindB prev c then none else if apOk (rest.dropWhile fun x => decide (x.cmp (chLn c) < 0)) c then apFrom (some c) (apStep out rest c).1 (apStep out rest c).2 t else none := rfl
theorem tw_step {p : Ln → Bool} {l : List Ln} {j : Nat} {y : Ln} (h : l[j]? = some y) (hp : p y = true) : (l.drop j).takeWhile p = y :: (l.drop (j + 1)).takeWhile p ∧ (l.drop j).dropWhile p = (l.drop (j + 1)).dropWhile p := by
  rw [drop_head l j y h]
  exact ⟨by simp [hp], by simp [hp]⟩
theorem tw_stop {p : Ln → Bool} {l : List Ln} {j : Nat} (h : ∀ y, l[j]? = some y → p y = false) : (l.drop j).takeWhile p = [] ∧ (l.drop j).dropWhile p = l.drop j := by
  cases hy : l[j]? with
  | none => rw [List.drop_of_length_le (by have := List.getElem?_eq_none_iff.1 hy; omega)]; exact ⟨rfl, rfl⟩
  | some y =>
    rw [drop_head l j y hy]
    exact ⟨by simp [h y hy], by simp [h y hy]⟩
theorem own_ne {w : World} {base sz : Nat} {e : TypeId} {v : Value} {n : Nat} {xs : List Value} (h : w.ownsRow base e sz v n xs) {D : Nat} {cs : Array Value} {t : TypeId} {fr : Nat × Nat} (hD : w.heap[D]? = some (.cells cs t fr)) (hne : t ≠ e) : v.ownBlock ≠ some D := fun hv => by
  obtain ⟨_, ⟨rfl, _⟩ | ⟨g, cap, cur, rfl, _, hg, _⟩⟩ := h
  · cases hv
  · have : g = D := by simpa [Value.ownBlock] using hv
    subst this
    rw [hg] at hD
    simp only [Option.some.injEq, Obj.cells.injEq] at hD
    exact hne hD.2.1.symm
theorem kindB_zero (l : List Ch) (c : Ch) (h1 : ¬ c.kind < 1) (h3 : ¬ 3 < c.kind) : kindB (prevOf l 0) c = false := by
  unfold kindB prevOf
  rw [if_pos rfl, decide_eq_false h1, decide_eq_false h3]; rfl
theorem kindB_succ (l : List Ch) (c d : Ch) (m : Nat) (hd : l[m]? = some d) (h1 : ¬ c.kind < 1) (h3 : ¬ 3 < c.kind) : kindB (prevOf l (m + 1)) c = decide (0 ≤ (chLn d).cmp (chLn c)) := by
  unfold kindB prevOf
  rw [if_neg (Nat.succ_ne_zero m), Nat.add_sub_cancel, hd, decide_eq_false h1, decide_eq_false h3]; rfl
theorem pred_numsR (k n : Nat) (h : k < n) (h0 : 0 < k) (hn : n ≤ 1000) : ∃ m : Nat, k = m + 1 ∧ (0 : Int) < (k : Int) ∧ (k : Int) - 1 = (m : Int) ∧ (0 : Int) ≤ (m : Int) ∧ (m : Int) < (n : Int) ∧ SmallN m ∧ m < n :=
  ⟨k - 1, by omega, by omega, by omega, by omega, by omega, ⟨by omega⟩, by omega⟩
structure ApLen (n : Nat) : Prop where
  p1 : n + 1 ≤ maxLen
  p2 : (n + 1) * 40 ≤ 140737488355328
theorem ap_len (n j k NA N : Nat) (h1 : n ≤ j + k) (h2 : j ≤ NA) (h3 : NA ≤ 1000) (h4 : k < N) (h5 : N ≤ 1000) : ApLen n := ⟨by unfold maxLen; omega, by omega⟩
structure ApEnd (n m : Nat) : Prop where
  p1 : n + m ≤ maxLen
  p2 : (n + m) * 40 ≤ 140737488355328
theorem ap_end (n j k NA : Nat) (h1 : n ≤ j + k) (h2 : j ≤ NA) (h3 : NA ≤ 1000) (h5 : k ≤ 1000) : ApEnd n (NA - j) := ⟨by unfold maxLen; omega, by omega⟩
theorem apOk_1h {y : Ln} {t : List Ln} {c : Ch} (h : c.kind = 1) : apOk (y :: t) c = (!keyB y (chLn c) && (decide (c.old = Ln.zero) && c.new.right)) := by
  unfold apOk; rw [h]; dsimp only; cases keyB y (chLn c) <;> cases decide (c.old = Ln.zero) <;> cases c.new.right <;> rfl
theorem apOk_1n {c : Ch} (h : c.kind = 1) : apOk [] c = (decide (c.old = Ln.zero) && c.new.right) := by
  unfold apOk; rw [h]; dsimp only; cases decide (c.old = Ln.zero) <;> cases c.new.right <;> rfl
theorem apOk_2h {y : Ln} {t : List Ln} {c : Ch} (h : c.kind = 2) : apOk (y :: t) c = (keyB y (chLn c) && (decide (c.old = y) && decide (c.new = Ln.zero))) := by
  unfold apOk; rw [h]; dsimp only; cases keyB y (chLn c) <;> cases decide (c.old = y) <;> cases decide (c.new = Ln.zero) <;> rfl
theorem apOk_2n {c : Ch} (h : c.kind = 2) : apOk [] c = false := by unfold apOk; rw [h]; rfl
theorem apOk_3h {y : Ln} {t : List Ln} {c : Ch} (h : c.kind = 3) : apOk (y :: t) c = (keyB y (chLn c) && (decide (c.old = y) && (c.new.right && (keyB c.new c.old && !decide (c.new = c.old))))) := by
  unfold apOk; rw [h]; dsimp only; cases keyB y (chLn c) <;> cases decide (c.old = y) <;> cases c.new.right <;> cases keyB c.new c.old <;> cases decide (c.new = c.old) <;> rfl
theorem apOk_3n {c : Ch} (h : c.kind = 3) : apOk [] c = false := by unfold apOk; rw [h]; rfl
theorem drop_headG {α : Type} (a : List α) (k : Nat) (x : α) (hx : a[k]? = some x) : a.drop k = x :: a.drop (k + 1) := by
  obtain ⟨hk, rfl⟩ := List.getElem?_eq_some_iff.1 hx
  exact List.drop_eq_getElem_cons hk
end Go.Ab

namespace Go.Proofs.YtlbbepgfjigjpaaGreatDoor
open Go.RowKit Go.Ab
def apPost (F : Option (List Ln)) (base : Nat) (e : Ending) (w' : World) : Prop := match F with
  | some M => ∃ u, e = .returned (.tuple #[u, .int .i64 0]) ∧ w'.ownsRow base 60 11 u M.length (M.flatMap Ln.cells)
  | none => e = .returned (.tuple #[.slice none 0 0, .int .i64 383])
attribute [local go_sem high] eq_rln eq_key wrapI wrapK
/-- What is said. -/
def RapStmt : Prop := ∀ (a : List Ln) (l : List Ch) (va vl : Value) (base0 : Nat) (w : World) (hao : w.ownsRow base0 60 11 va a.length (a.flatMap Ln.cells)) (hv : ChRow w vl l) (ba : ∀ x ∈ a, LnB x) (bl : ∀ c ∈ l, LnB c.old ∧ LnB c.new) (la : a.length ≤ 1000) (ll : l.length ≤ 1000),
    Calls Tryz.prog 34 #[va, vl] w fun e w' => apPost (refApplyL a l) w.heap.size e w' ∧ ∃ x : Ext w, w' = x.w
set_option maxHeartbeats 64000000 in
set_option maxRecDepth 100000 in
/-- The walk up to the long test, twice: what is left there is kept as two statements. -/
noncomputable def rapPart : PSigma (fun R1 : Prop => PSigma (fun R2 : Prop => R1 → R2 → RapStmt)) := by
  apply PSigma.mk
  case snd =>
    apply PSigma.mk
    case snd =>
      intro hR1 hR2 a l va vl base0 w hao hv ba bl la ll
      have ha : LnRow w va a := RowOf.of_owns Ln.cells_length hao
      have hO := fun W (h : UpI w W) => rordered_any a va W (RowOf.up ha h.up) ba (by omega)
      have hsh : va = .slice none 0 0 ∧ a = [] ∨ ∃ g cap, va = .slice (some ⟨g, 0, none⟩) a.length cap := by
        obtain ⟨_, ⟨h1, h2⟩ | ⟨g, cap, cur, h1, _⟩⟩ := hao
        · exact Or.inl ⟨h1, List.length_eq_zero_iff.1 h2⟩
        · exact Or.inr ⟨g, cap, h1⟩
      obtain ⟨F, hF⟩ : ∃ F, refApplyL a l = F := ⟨_, rfl⟩
      rw [hF]
      unfold refApplyL at hF
      obtain ⟨p, cap, rfl, hle, hc⟩ := hv
      obtain ⟨pa, capa, rfl, hlea, hca⟩ := ha
      obtain ⟨N, hN⟩ : ∃ N, l.length = N := ⟨_, rfl⟩
      obtain ⟨NA, hNA⟩ : ∃ N, a.length = N := ⟨_, rfl⟩
      rw [hN] at hle ll ⊢
      rw [hNA] at hlea la hO hsh ⊢
      have hnil : pa = none → capa = 0 ∧ NA = 0 := fun h => by
        rcases hsh with ⟨h1, h2⟩ | ⟨g, cp, h1⟩
        · simp only [Value.slice.injEq] at h1; exact ⟨h1.2.2, h1.2.1⟩
        · rw [h] at h1; simp only [Value.slice.injEq] at h1; cases h1.1
      have hsom : ∀ q, pa = some q → ∃ g, q = ⟨g, 0, none⟩ := fun q h => by
        rcases hsh with ⟨h1, h2⟩ | ⟨g, cp, h1⟩
        · rw [h] at h1; simp only [Value.slice.injEq] at h1; cases h1.1
        · rw [h] at h1; simp only [Value.slice.injEq, Option.some.injEq] at h1; exact ⟨g, h1.1⟩
      have HN := Lib.hid hN; have HNA := Lib.hid hNA; have Hc := Lib.hid hc; have HCA := Lib.hid hca; have Hba := Lib.hid ba; have Hbl := Lib.hid bl; have Hnil := Lib.hid hnil; have Hsom := Lib.hid hsom
      obtain ⟨i0, hi, hy0, hy1, hy2⟩ := info_parts infoRLine
      have Hi := Lib.hid hi; have Hy0 := Lib.hid hy0; have Hy1 := Lib.hid hy1; have Hy2 := Lib.hid hy2
      clear hN hNA hc hca ba bl hao hsh hnil hsom hi hy0 hy1 hy2
      go_enter Tryz.func34, Tryz.ntmps34
      obtain ⟨ob, hob⟩ : ∃ b, orderedL a = b := ⟨_, rfl⟩
      rw [hob] at hO hF
      cases ob
      · have HF := Lib.hid (show F = none by rw [← hF]; rfl)
        clear hF hob
        go_wp2_with (go_at_call 28; refine (hO _ inferInstance).mono ?_; rintro e w' ⟨rfl, z1, rfl⟩)
        go_ret2
        exact ⟨by rw [HF.out]; rfl, mkI⟩
      have HF := Lib.hid (show apFrom none [] a l = F by rw [← hF]; rfl)
      clear hF hob
      go_wp2_with (go_at_call 28; refine (hO _ inferInstance).mono ?_; rintro e w' ⟨rfl, z1, rfl⟩)
      clear hO
      go_loopw [6, 7, 8] (fun out ix i wr => ∃ (k j : Nat) (M : List Ln), k ≤ N ∧ j ≤ NA ∧ i = .int .i64 (k : Int) ∧ ix = .int .i64 (j : Int) ∧ Hid (apFrom (prevOf l k) M (a.drop j) (l.drop k) = F) ∧ M.length ≤ j + k ∧ Hid (wr.ownsRow w.heap.size 60 11 out M.length (M.flatMap Ln.cells)) ∧ Up w wr) (fun _ _ i _ => N - (intOf i).toNat)
      case atStart => exact ⟨0, 0, [], Nat.zero_le _, Nat.zero_le _, rfl, rfl, Lib.hid (by rw [List.drop_zero, List.drop_zero]; exact HF.out), Nat.le_refl _, Lib.hid (World.ownsRow_nil _ _ _ _), upI⟩
      case round =>
        obtain ⟨k, j0, M0, hk, hj0, rfl, rfl, HFk, hMl0, Hown0, hu⟩ := hrel
        haveI : UpI w wr := ⟨hu⟩
        by_cases hlt : k < N
        · have hlt' : (k : Int) < (N : Int) := by omega
          have k0 : (0 : Int) ≤ (k : Int) := by omega
          obtain ⟨c, hx⟩ : ∃ c, l[k]? = some c := ⟨_, List.getElem?_eq_getElem (by rw [HN.out]; exact hlt)⟩
          obtain ⟨b1, o1, rfl, hb1, hc1⟩ := Hc.out k c hx
          have hX : wr.rangeAt b1 (o1 + k * 23) c.cells := fun t u hj => hu.cell_some (hc1 t u hj)
          obtain ⟨cb1, cb2⟩ := Hbl.out c (List.mem_of_getElem? hx)
          have Hx := Lib.hid hx
          obtain ⟨KB, hKB⟩ : ∃ KB, kindB (prevOf l k) c = KB := ⟨_, rfl⟩
          have HFc := Lib.hid (show (if KB = true then none else if apOk ((a.drop j0).dropWhile fun x => decide (x.cmp (chLn c) < 0)) c then apFrom (some c) (apStep M0 (a.drop j0) c).1 (apStep M0 (a.drop j0) c).2 (l.drop (k + 1)) else none) = F by rw [← hKB, ← apFrom_cons, ← drop_headG l k c hx]; exact HFk.out)
          clear hc1 hx HFk
          go_upto_region 9 with (first
            | ((with_reducible refine held ?_); refine H_load_mid rfl 89 _ rfl b1 (o1 + k * 23) rfl c.cells _ hX Tryz.underlying89 rfl rchSize ?_)
            | ((with_reducible refine held ?_); refine H_store_row rfl 89 _ _ rfl _ c.cells.toArray rfl rfl 89 _ (alloc_new rfl) rchSize rfl (Array.all_eq_true_iff_forall_mem.2 (fun u hu => chg_one c u (by simpa using hu))) ?_))
          obtain ⟨D, hD⟩ : ∃ D, wr.heap.size = D := ⟨_, rfl⟩
          rw [hD]
          refine wp_letter (fun Z => UpI wr Z ∧ Z.heap[D]? = some (.cells c.cells.toArray 89 (0, 0))) ⟨⟨UpI.row hD _⟩, setRow_heap _ _ _ _ _ _ (alloc_new hD)⟩ ?_
          rintro Z ⟨uZ, hZh⟩
          have hZ := range_heap hZh
          haveI := uZ
          haveI : UpI w Z := ⟨hu.trans uZ.up⟩
          have c0 : Z.cell? ⟨D, 0, none⟩ = some (.int .u8 c.kind) := hZ 0 _ rfl
          haveI : LtSize D Z := ⟨cell_lt c0⟩
          have hkc := fun W => rkey_any c W
          clear hX hD
          (try go_frame)
          go_cut [47] (fun v wx => v = .bool KB ∧ UpI Z wx)
          case first =>
            by_cases q1 : c.kind < 1
            · obtain rfl : KB = true := by rw [← hKB]; unfold kindB; simp [q1]
              have bq1 : decide (c.kind < 1) = true := decide_eq_true q1
              have hkd := hkc
              refine wp_region_ext (by kernel_rfl) (by kernel_rfl) ?_
              (try dsimp only [List.append])
              repeat (first
                | go_big_quiet_skip
                | ((with_reducible refine held ?_); refine HQ_load_mid (by kernel_rfl) 89 _ rfl D (0) rfl c.cells _ (range_ext hZ) Tryz.underlying89 rfl rchSize ?_; simp only [Act.put, List.setIfInBounds_toArray, List.set_cons_succ, List.set_cons_zero])
                | go_big_quiet_step ((go_at_call 60; first | with_reducible exact (hkc _).ext | with_reducible exact (hkd _).ext)))
              refine wpQuiet_nil ?_
              rintro _ ⟨z2, rfl⟩
              go_wp2_with fail
              go_meet
              exact ⟨rfl, inferInstance⟩
            · have q1' : 1 ≤ c.kind := Int.not_lt.1 q1
              have bq1 : decide (c.kind < 1) = false := decide_eq_false q1
              by_cases q3 : 3 < c.kind
              · obtain rfl : KB = true := by rw [← hKB]; unfold kindB; simp [q3]
                have bq3 : decide (3 < c.kind) = true := decide_eq_true q3
                have hkd := hkc
                refine wp_region_ext (by kernel_rfl) (by kernel_rfl) ?_
                (try dsimp only [List.append])
                repeat (first
                  | go_big_quiet_skip
                  | ((with_reducible refine held ?_); refine HQ_load_mid (by kernel_rfl) 89 _ rfl D (0) rfl c.cells _ (range_ext hZ) Tryz.underlying89 rfl rchSize ?_; simp only [Act.put, List.setIfInBounds_toArray, List.set_cons_succ, List.set_cons_zero])
                  | go_big_quiet_step ((go_at_call 60; first | with_reducible exact (hkc _).ext | with_reducible exact (hkd _).ext)))
                refine wpQuiet_nil ?_
                rintro _ ⟨z2, rfl⟩
                go_wp2_with fail
                go_meet
                exact ⟨rfl, inferInstance⟩
              · have q3' : c.kind ≤ 3 := Int.not_lt.1 q3
                have bq3 : decide (3 < c.kind) = false := decide_eq_false q3
                rcases Nat.eq_zero_or_pos k with hk0 | hk0
                · obtain rfl : KB = false := by rw [← hKB, hk0]; exact kindB_zero l c q1 q3
                  have hkz : ¬ (0 : Int) < (k : Int) := by rw [hk0]; decide
                  have bk : decide (0 < k) = false := decide_eq_false (by rw [hk0]; decide)
                  have hkd := hkc
                  clear hk0
                  refine wp_region_ext (by kernel_rfl) (by kernel_rfl) ?_
                  (try dsimp only [List.append])
                  repeat (first
                    | go_big_quiet_skip
                    | ((with_reducible refine held ?_); refine HQ_load_mid (by kernel_rfl) 89 _ rfl D (0) rfl c.cells _ (range_ext hZ) Tryz.underlying89 rfl rchSize ?_; simp only [Act.put, List.setIfInBounds_toArray, List.set_cons_succ, List.set_cons_zero])
                    | go_big_quiet_step ((go_at_call 60; first | with_reducible exact (hkc _).ext | with_reducible exact (hkd _).ext)))
                  refine wpQuiet_nil ?_
                  rintro _ ⟨z2, rfl⟩
                  go_wp2_with fail
                  go_meet
                  exact ⟨rfl, inferInstance⟩
                · obtain ⟨m, hm, hkp, hkm, hm0, hmN, hwm, hmN'⟩ := pred_numsR k N hlt hk0 ll
                  haveI := hwm
                  have bk : decide (0 < k) = true := decide_eq_true hk0
                  obtain ⟨d, hd⟩ : ∃ d, l[m]? = some d := ⟨_, List.getElem?_eq_getElem (by rw [HN.out]; exact hmN')⟩
                  obtain ⟨b', o', hp', _, hcd⟩ := Hc.out m d hd
                  simp only [Option.some.injEq, Addr.mk.injEq, and_true] at hp'
                  obtain ⟨rfl, rfl⟩ := hp'
                  have hXp : Z.rangeAt b1 (o1 + m * 23) d.cells := fun t u hj => (hu.trans uZ.up).cell_some (hcd t u hj)
                  haveI : LtSize b1 Z := ⟨Nat.lt_of_lt_of_le hb1 (hu.trans uZ.up).size⟩
                  obtain ⟨db1, db2⟩ := Hbl.out d (List.mem_of_getElem? hd)
                  have hkd := fun W => rkey_any d W
                  obtain ⟨C, hC⟩ : ∃ C, (chLn d).cmp (chLn c) = C := ⟨_, rfl⟩
                  have hcK : LnB (chLn c) := by unfold chLn; split <;> assumption
                  have hdK : LnB (chLn d) := by unfold chLn; split <;> assumption
                  have hcm := fun w => rcmpK (chLn d).pr (chLn d).s (chLn d).d (chLn d).sp (chLn d).dp (chLn c).pr (chLn c).s (chLn c).d (chLn c).sp (chLn c).dp C w hdK.key hcK.key (Lib.hid hC)
                  have EK := Lib.hid (show KB = decide (0 ≤ C) by rw [← hKB, hm, kindB_succ l c d m hd q1 q3, hC])
                  clear hcd hd hC hdK hcK hk0 hm db1 db2
                  by_cases hC0 : 0 ≤ C
                  · obtain rfl : KB = true := by rw [EK.out]; exact decide_eq_true hC0
                    have bC : decide ((0 : Int) ≤ C) = true := decide_eq_true hC0
                    refine wp_region_ext (by kernel_rfl) (by kernel_rfl) ?_
                    (try dsimp only [List.append])
                    repeat (first
                      | go_big_quiet_skip
                      | ((with_reducible refine held ?_); refine HQ_load_mid (by kernel_rfl) 89 _ rfl D (0) rfl c.cells _ (range_ext hZ) Tryz.underlying89 rfl rchSize ?_; simp only [Act.put, List.setIfInBounds_toArray, List.set_cons_succ, List.set_cons_zero])
                      | ((with_reducible refine held ?_); refine HQ_load_mid (by kernel_rfl) 89 _ rfl b1 (o1 + m * 23) rfl d.cells _ (range_ext hXp) Tryz.underlying89 rfl rchSize ?_; simp only [Act.put, List.setIfInBounds_toArray, List.set_cons_succ, List.set_cons_zero])
                      | go_big_quiet_step (first | (go_at_call 60; first | with_reducible exact (hkc _).ext | with_reducible exact (hkd _).ext) | (go_at_call 58; exact (hcm _).ext)))
                    refine wpQuiet_nil ?_
                    rintro _ ⟨z2, rfl⟩
                    go_wp2_with fail
                    go_meet
                    exact ⟨rfl, inferInstance⟩
                  · obtain rfl : KB = false := by rw [EK.out]; exact decide_eq_false hC0
                    have bC : decide ((0 : Int) ≤ C) = false := decide_eq_false hC0
                    refine wp_region_ext (by kernel_rfl) (by kernel_rfl) ?_
                    (try dsimp only [List.append])
                    repeat (first
                      | go_big_quiet_skip
                      | ((with_reducible refine held ?_); refine HQ_load_mid (by kernel_rfl) 89 _ rfl D (0) rfl c.cells _ (range_ext hZ) Tryz.underlying89 rfl rchSize ?_; simp only [Act.put, List.setIfInBounds_toArray, List.set_cons_succ, List.set_cons_zero])
                      | ((with_reducible refine held ?_); refine HQ_load_mid (by kernel_rfl) 89 _ rfl b1 (o1 + m * 23) rfl d.cells _ (range_ext hXp) Tryz.underlying89 rfl rchSize ?_; simp only [Act.put, List.setIfInBounds_toArray, List.set_cons_succ, List.set_cons_zero])
                      | go_big_quiet_step (first | (go_at_call 60; first | with_reducible exact (hkc _).ext | with_reducible exact (hkd _).ext) | (go_at_call 58; exact (hcm _).ext)))
                    refine wpQuiet_nil ?_
                    rintro _ ⟨z2, rfl⟩
                    go_wp2_with fail
                    go_meet
                    exact ⟨rfl, inferInstance⟩
          case rest =>
            obtain ⟨rfl, hu3⟩ := hcut
            haveI := hu3
            haveI : UpI w wc := ⟨(upI : Up w Z).trans hu3.up⟩
            haveI : UpI wr wc := ⟨uZ.up.trans hu3.up⟩
            have hDc : wc.heap[D]? = some (.cells c.cells.toArray 89 (0, 0)) := (hu3.up.block D (lt_of_heap hZh)).trans hZh
            clear hZ c0 hZh
            cases KB
            case true =>
              have HE := Lib.hid (show F = none by rw [← HFc.out]; rfl)
              go_wp2_with fail
              go_ret2
              exact ⟨by rw [HE.out]; rfl, mkI⟩
            case false =>
              have HFd := Lib.hid (show (if apOk ((a.drop j0).dropWhile fun x => decide (x.cmp (chLn c) < 0)) c then apFrom (some c) (apStep M0 (a.drop j0) c).1 (apStep M0 (a.drop j0) c).2 (l.drop (k + 1)) else none) = F by rw [← HFc.out]; rfl)
              have hk123 : 1 ≤ c.kind ∧ c.kind ≤ 3 := by
                unfold kindB at hKB
                simp only [Bool.or_eq_false_iff, decide_eq_false_iff_not] at hKB
                omega
              clear HFc hKB
              clear hu
              have HownC := Lib.hid (owns_up Hown0.out (upI : Up wr wc))
              clear Hown0
              have hk3 : c.kind = 1 ∨ c.kind = 2 ∨ c.kind = 3 := by omega
              unfold Ln.kcells at hkc
              go_wp2_with fail
              go_loopw [6, 7] (fun out ix wr => ∃ (j : Nat) (M : List Ln), j ≤ NA ∧ ix = .int .i64 (j : Int) ∧ Hid (M ++ (a.drop j).takeWhile (fun x => decide (x.cmp (chLn c) < 0)) = M0 ++ (a.drop j0).takeWhile (fun x => decide (x.cmp (chLn c) < 0)) ∧ (a.drop j).dropWhile (fun x => decide (x.cmp (chLn c) < 0)) = (a.drop j0).dropWhile (fun x => decide (x.cmp (chLn c) < 0))) ∧ M.length ≤ j + k ∧ Hid (wr.ownsRow w.heap.size 60 11 out M.length (M.flatMap Ln.cells)) ∧ wr.heap[D]? = some (.cells c.cells.toArray 89 (0, 0)) ∧ Up w wr) (fun _ ix _ => NA - (intOf ix).toNat)
              case atStart => exact ⟨j0, M0, hj0, rfl, Lib.hid ⟨rfl, rfl⟩, hMl0, HownC, hDc, upI⟩
              case round =>
                clear HownC hMl0 hj0
                obtain ⟨j, M, hj, rfl, HT, hMl, Hown, hDr, hu⟩ := hrel
                haveI : UpI w wr := ⟨hu⟩
                have hZr := range_heap hDr
                have c0w : wr.cell? ⟨D, 0, none⟩ = some (.int .u8 c.kind) := hZr 0 _ rfl
                haveI : LtSize D wr := ⟨cell_lt c0w⟩
                by_cases hja : j < NA
                · obtain ⟨hja', jj0⟩ : (j : Int) < (NA : Int) ∧ (0 : Int) ≤ (j : Int) := by omega
                  obtain ⟨y, hy⟩ : ∃ y, a[j]? = some y := ⟨_, List.getElem?_eq_getElem (by rw [HNA.out]; exact hja)⟩
                  obtain ⟨b2, o2, rfl, hb2, hcy⟩ := HCA.out j y hy
                  have hY : wr.rangeAt b2 (o2 + j * 11) y.cells := fun t u ht => (upI : Up w wr).cell_some (hcy t u ht)
                  haveI : LtSize b2 wr := ⟨Nat.lt_of_lt_of_le hb2 (upI : Up w wr).size⟩
                  have hYk := range_key hY
                  have yb := Hba.out y (List.mem_of_getElem? hy)
                  have hcK : LnB (chLn c) := by unfold chLn; split <;> assumption
                  obtain ⟨C, hC⟩ : ∃ C, y.cmp (chLn c) = C := ⟨_, rfl⟩
                  have hcm := fun w => rcmpK y.pr y.s y.d y.sp y.dp (chLn c).pr (chLn c).s (chLn c).d (chLn c).sp (chLn c).dp C w yb.key hcK.key (Lib.hid hC)
                  have Hy := Lib.hid hy
                  have HC := Lib.hid hC
                  clear hcy hy hC hcK yb
                  go_upto_region 11 with fail
                  by_cases hC0 : C < 0
                  · have HTW := Lib.hid (tw_step (p := fun x => decide (x.cmp (chLn c) < 0)) Hy.out (by simp only [HC.out]; exact decide_eq_true hC0))
                    refine wp_region_ext (by kernel_rfl) (by kernel_rfl) ?_
                    (try dsimp only [List.append])
                    repeat (first
                      | go_big_quiet_skip
                      | ((with_reducible refine held ?_); refine HQ_load_mid (by kernel_rfl) 89 _ rfl D (0) rfl c.cells _ (range_ext hZr) Tryz.underlying89 rfl rchSize ?_; simp only [Act.put, List.setIfInBounds_toArray, List.set_cons_succ, List.set_cons_zero])
                      | ((with_reducible refine held ?_); refine HQ_load_mid (by kernel_rfl) 29 _ rfl b2 (o2 + j * 11) rfl [.int .u8 y.pr, .int .u32 y.s, .int .u32 y.d, .int .u16 y.sp, .int .u16 y.dp] _ (range_ext hYk) Tryz.underlying29 rfl keySize ?_; simp only [Act.put, List.setIfInBounds_toArray, List.set_cons_succ, List.set_cons_zero])
                      | go_big_quiet_step (first | (go_at_call 60; with_reducible exact (hkc _).ext) | (go_at_call 58; with_reducible exact (hcm _).ext)))
                    refine wpQuiet_nil ?_
                    rintro _ ⟨z3, rfl⟩
                    have hYz : z3.w.rangeAt b2 (o2 + j * 11) y.cells := fun t u ht => z3.up.cell_some' (hY t u ht)
                    have HLn := ap_len M.length j k NA N hMl hj la hlt ll
                    go_wp2_with (first
                      | ((with_reducible refine held ?_); refine H_load_mid rfl 60 _ rfl b2 (o2 + j * 11) rfl y.cells _ hYz Tryz.underlying60 rfl rlnSize ?_)
                      | ((with_reducible refine held ?_); refine H_sliceRun rfl 75 1 _ rfl #[(0, .agg y.cells.toArray)] (by kernel_rfl) _ _ (slice_rline y _) ?_)
                      | (at_builtin; (with_reducible refine held ?_); refine H_append_own rfl _ _ 75 rfl w.heap.size 60 i0 Ln.zero.val 11 40 Tryz.underlying75 Hi.out Hy0.out Hy1.out Hy2.out rfl (by decide) _ _ _ rfl (owns_up (owns_up Hown.out (upI : Up wr z3.w)) (upI : Up z3.w _)) ⟨_, 0, none⟩ 1 1 y.cells rfl rfl ?c1 ?c2 ?c3 ?c4 ?c5 ?_))
                    case c1 => intro t u ht; rw [lnBlk_one]; exact ln_at z3.w y _ t u ht
                    case c2 => exact fun u h => y.one u h
                    case c3 => exact HLn.p1
                    case c4 => exact HLn.p2
                    case c5 => first | exact Nat.le_succ_of_le (upI : Up w wc).size | exact (upI : Up w _).size
                    intro v' w1 hown' hgrow _
                    have hu1 : Up w w1 := Up.grown (upI : Up w _) hgrow (owns_row Hown.out)
                    have Hown' := Lib.hid hown'
                    clear hown'
                    have hDz : z3.w.heap[D]? = some (.cells c.cells.toArray 89 (0, 0)) := (z3.up.block D (lt_of_heap hDr)).trans hDr
                    have hDa : (z3.w.alloc (.cells (lnBlk [y]) 60)).heap[D]? = some (.cells c.cells.toArray 89 (0, 0)) := (((Up.refl z3.w).alloc (.cells (lnBlk [y]) 60)).block D (lt_of_heap hDz)).trans hDz
                    have hD1 : w1.heap[D]? = some (.cells c.cells.toArray 89 (0, 0)) := (hgrow.block D (lt_of_heap hDa) (own_ne (owns_up (owns_up Hown.out (upI : Up wr z3.w)) ((Up.refl z3.w).alloc (.cells (lnBlk [y]) 60))) hDa (by decide)).symm).trans hDa
                    clear hgrow
                    go_wp2_with fail
                    go_roundw
                    case rel => exact ⟨j + 1, M ++ [y], Nat.succ_le_of_lt hja, by go_num, Lib.hid ⟨by rw [← HT.out.1, HTW.out.1]; simp, by rw [← HT.out.2, HTW.out.2]⟩, by rw [List.length_append, List.length_singleton]; omega, Lib.hid (by rw [List.length_append, List.flatMap_append]; simpa using Hown'.out), hD1, hu1⟩
                    case measure => simp [intOf]; omega
                  · have HTW := Lib.hid (tw_stop (p := fun x => decide (x.cmp (chLn c) < 0)) (l := a) (j := j) (fun z hz => by rw [Hy.out] at hz; cases hz; simp only [HC.out]; exact decide_eq_false hC0))
                    have HDH := Lib.hid (drop_head a j y Hy.out)
                    refine wp_region_ext (by kernel_rfl) (by kernel_rfl) ?_
                    (try dsimp only [List.append])
                    repeat (first
                      | go_big_quiet_skip
                      | ((with_reducible refine held ?_); refine HQ_load_mid (by kernel_rfl) 89 _ rfl D (0) rfl c.cells _ (range_ext hZr) Tryz.underlying89 rfl rchSize ?_; simp only [Act.put, List.setIfInBounds_toArray, List.set_cons_succ, List.set_cons_zero])
                      | ((with_reducible refine held ?_); refine HQ_load_mid (by kernel_rfl) 29 _ rfl b2 (o2 + j * 11) rfl [.int .u8 y.pr, .int .u32 y.s, .int .u32 y.d, .int .u16 y.sp, .int .u16 y.dp] _ (range_ext hYk) Tryz.underlying29 rfl keySize ?_; simp only [Act.put, List.setIfInBounds_toArray, List.set_cons_succ, List.set_cons_zero])
                      | go_big_quiet_step (first | (go_at_call 60; with_reducible exact (hkc _).ext) | (go_at_call 58; with_reducible exact (hcm _).ext)))
                    refine wpQuiet_nil ?_
                    rintro _ ⟨z3, rfl⟩
                    go_upto_region 14 with fail
                    have hD3 : z3.w.heap[D]? = some (.cells c.cells.toArray 89 (0, 0)) := (z3.up.block D (lt_of_heap hDr)).trans hDr
                    have hZ3 := range_heap hD3
                    have hY3 : z3.w.rangeAt b2 (o2 + j * 11) y.cells := fun t u ht => z3.up.cell_some' (hY t u ht)
                    have hYk3 := range_key hY3
                    obtain ⟨there, hthere⟩ : ∃ b, keyB y (chLn c) = b := ⟨_, rfl⟩
                    have hthU := hthere
                    unfold keyB at hthU
                    refine wp_region_ext (by kernel_rfl) (by kernel_rfl) ?_
                    (try dsimp only [List.append])
                    repeat (first
                      | go_big_quiet_skip
                      | ((with_reducible refine held ?_); refine HQ_load_mid (by kernel_rfl) 89 _ rfl D (0) rfl c.cells _ (range_ext hZ3) Tryz.underlying89 rfl rchSize ?_; simp only [Act.put, List.setIfInBounds_toArray, List.set_cons_succ, List.set_cons_zero])
                      | ((with_reducible refine held ?_); refine HQ_load_mid (by kernel_rfl) 29 _ rfl b2 (o2 + j * 11) rfl [.int .u8 y.pr, .int .u32 y.s, .int .u32 y.d, .int .u16 y.sp, .int .u16 y.dp] _ (range_ext hYk3) Tryz.underlying29 rfl keySize ?_; simp only [Act.put, List.setIfInBounds_toArray, List.set_cons_succ, List.set_cons_zero])
                      | go_big_quiet_step (first | (go_at_call 60; with_reducible exact (hkc _).ext)))
                    refine wpQuiet_nil ?_
                    rintro _ ⟨z4, rfl⟩
                    go_upto_region 15 with fail
                    refine wp_letter (fun W9 => UpI w W9 ∧ Hid (W9.ownsRow w.heap.size 60 11 u6 M.length (M.flatMap Ln.cells)) ∧ W9.heap[D]? = some (.cells c.cells.toArray 89 (0, 0)) ∧ W9.rangeAt b2 (o2 + j * 11) y.cells) ⟨inferInstance, Lib.hid (owns_up Hown.out (upI : Up wr z4.w)), (z4.up.block D (lt_of_heap hD3)).trans hD3, fun t u ht => z4.up.cell_some' (hY3 t u ht)⟩ ?_
                    clear Hown hZr c0w hDr hD3 hZ3 hY hYk hcm hY3 hYk3
                    rintro W9 ⟨uW9, Hown, hDr, hY⟩
                    haveI := uW9
                    have hZr := range_heap hDr
                    have c0w : W9.cell? ⟨D, 0, none⟩ = some (.int .u8 c.kind) := hZr 0 _ rfl
                    haveI : LtSize D W9 := ⟨cell_lt c0w⟩
                    have hYk := range_key hY
                    have HAP := Lib.hid (show (if apOk (a.drop j) c then apFrom (some c) (M ++ (if c.kind = 2 then [] else [c.new])) (if 1 < c.kind then (a.drop j).drop 1 else a.drop j) (l.drop (k + 1)) else none) = F by
                      have h := HFd.out
                      unfold apStep at h
                      rw [← HT.out.2, HTW.out.2] at h
                      simp only at h
                      rw [← HT.out.1, HTW.out.1, List.append_nil] at h
                      exact h)
                    clear HFd
                    obtain ⟨OK, hOK⟩ : ∃ OK, apOk (a.drop j) c = OK := ⟨_, rfl⟩
                    rw [hOK] at HAP
                    rename_i i0_ i1_ i2_ i3_ i4_ i5_ i6_ i7_ i8_ i9_ i10_ i11_ i12_ i13_ i14_ i15_ i16_ i17_ i18_ i19_ i20_ i21_ i22_ i23_ i24_ i25_ i26_ i27_ i28_ i29_ i30_ i31_ i32_ i33_ i34_ i35_ i36_ i37_ i38_ i39_ i40_ i41_ i42_ i43_ i44_ i45_ i46_ i47_ i48_ i49_ i50_ i51_ i52_ i53_ i54_ i55_ i56_ i57_ i58_ i59_ i60_ i61_ i62_ i63_ i64_ i65_ i66_ i67_ i68_ i69_ i70_ i71_ i72_ i73_ i74_ i75_ i76_ i77_ i78_ i79_ i80_ i81_ i82_ i83_ i84_ i85_ i86_ i87_ i88_ i89_ i90_ i91_ i92_ i93_ i94_ i95_ i96_ i97_ i98_ i99_ i100_ i101_ i102_ i103_ i104_ i105_ i106_ i107_ i108_ i109_ i110_ i111_ i112_ i113_ i114_ i115_ i116_ i117_ i118_ i119_ i120_ i121_ i122_ i123_ i124_ i125_ i126_ i127_ i128_ i129_ i130_ i131_ i132_ i133_ i134_ i135_ i136_ i137_ i138_ i139_ i140_ i141_ i142_ i143_ i144_ i145_ i146_ i147_ i148_ i149_ i150_ i151_ i152_ i153_ i154_ i155_ i156_ i157_ i158_ i159_ i160_ i161_ i162_ i163_ i164_ i165_ i166_ i167_ i168_ i169_ i170_ i171_ i172_ i173_ i174_ i175_ i176_ i177_ i178_ i179_ i180_ i181_ i182_ i183_ i184_ i185_ i186_ i187_ i188_ i189_ i190_ i191_ i192_ i193_ i194_ i195_ i196_ i197_ i198_ i199_ i200_ i201_ i202_ i203_ i204_ i205_ i206_ i207_
                    revert u64 u65 u66 u67 u68 u69 u70 u71 j M hj HT hMl hu i195_ i196_ hja hja' jj0 y b2 o2 HCA Hnil Hsom i197_ i198_ hb2 i199_ C Hy HC i200_ i201_ i202_ hC0 HTW HDH z3 there hthere hthU z4 i203_ i204_ i205_ i206_ W9 uW9 Hown hDr hY i207_ hZr c0w this hYk OK HAP hOK
                    revert u138 u139 u140 u141 u142 u143 u144 u145 u146 u147 u148 u149 u150 u151 u152 u153 u154 u155 u156 u157 u158 u159 u160 u161 u162 u163 u164 u165 u166 u167 u168 u169 u170 u171 hu3 i191_ i192_ i193_ hDc hk123 hk3 i194_ wr u6 u48 u49 u50 u51 u52 u53 u54 u55 u56 u57 u58 u59 u60 u61 u62 u63
                    revert u78 u79 u80 u81 u82 u83 u84 u85 u86 u87 u88 u89 u90 u91 u92 u93 u94 u95 u96 u97 u98 u99 u100 u101 u102 u103 u104 u105 u106 u107 u108 u109 u110 u111 u112 u113 u114 u115 u116 u117 u118 u119 u120 u121 u122 u123 u124 u125 u126 u127 u128 u129 u130 u131 u132 u133 u134 u135 u136 u137
                    revert u17 u18 u19 u20 u21 u22 u23 u24 u25 u26 u27 u28 u29 u30 u31 u32 u33 u34 u35 u36 u37 u38 u39 u40 u41 u42 u43 u44 u45 u46 i167_ i168_ i169_ i170_ i171_ i172_ i173_ i174_ i175_ i176_ i177_ i178_ i179_ i180_ i181_ i182_ i183_ i184_ i185_ i186_ i187_ i188_ i189_ i190_ u72 u73 u74 u75 u76 u77
                    revert i130_ i131_ i132_ i133_ i134_ i135_ i136_ i137_ i138_ i139_ i140_ i141_ i142_ i143_ i144_ i145_ i146_ i147_ i148_ i149_ i150_ i151_ i152_ i153_ i154_ i155_ i156_ i157_ i158_ i159_ i160_ i161_ k j0 M0 hk i162_ hlt hlt' k0 c b1 o1 Hc hb1 cb1 cb2 Hx i163_ D Z uZ i164_ i165_ i166_ hkc wc u14 u15 u16
                    revert i70_ i71_ i72_ i73_ i74_ i75_ i76_ i77_ i78_ i79_ i80_ i81_ i82_ i83_ i84_ i85_ i86_ i87_ i88_ i89_ i90_ i91_ i92_ i93_ i94_ i95_ i96_ i97_ i98_ i99_ i100_ i101_ i102_ i103_ i104_ i105_ i106_ i107_ i108_ i109_ i110_ i111_ i112_ i113_ i114_ i115_ i116_ i117_ i118_ i119_ i120_ i121_ i122_ i123_ i124_ i125_ i126_ i127_ i128_ i129_
                    revert i11_ i12_ i13_ i14_ i15_ i16_ i17_ i18_ i19_ i20_ i21_ i22_ i23_ i24_ i25_ i26_ i27_ i28_ i29_ i30_ i31_ i32_ i33_ i34_ i35_ i36_ i37_ u47 i38_ i39_ i40_ i41_ i42_ i43_ i44_ i45_ i46_ i47_ i48_ i49_ i50_ i51_ i52_ i53_ i54_ i55_ i56_ i57_ i58_ i59_ i60_ i61_ i62_ i63_ i64_ i65_ i66_ i67_ i68_ i69_
                    revert a l base0 w F cap capa N ll hle NA la hlea HN HNA Hba Hbl i0 Hi Hy0 Hy1 Hy2 HF i0_ z1 i1_ i2_ i3_ u4 u5 i4_ u9 u10 i5_ i6_ i7_ i8_ i9_ i10_
                    exact hR1
                · obtain rfl : j = NA := by omega
                  have hjn : ¬ (j : Int) < (j : Int) := by omega
                  have HDN := Lib.hid (show a.drop j = [] from List.drop_of_length_le (by rw [HNA.out]; exact Nat.le_refl _))
                  have HTW := Lib.hid (tw_stop (p := fun x => decide (x.cmp (chLn c) < 0)) (l := a) (j := j) (fun z hz => by rw [List.getElem?_eq_none (by rw [HNA.out]; exact Nat.le_refl _)] at hz; cases hz))
                  go_upto_region 11 with fail
                  refine wp_region_ext (by kernel_rfl) (by kernel_rfl) ?_
                  (try dsimp only [List.append])
                  repeat (first
                    | go_big_quiet_step (fail))
                  refine wpQuiet_nil ?_
                  rintro _ ⟨z3, rfl⟩
                  go_upto_region 14 with fail
                  have hD3 : z3.w.heap[D]? = some (.cells c.cells.toArray 89 (0, 0)) := (z3.up.block D (lt_of_heap hDr)).trans hDr
                  have hZ3 := range_heap hD3
                  refine wp_region_ext (by kernel_rfl) (by kernel_rfl) ?_
                  (try dsimp only [List.append])
                  repeat (first
                    | go_big_quiet_skip
                    | ((with_reducible refine held ?_); refine HQ_load_mid (by kernel_rfl) 89 _ rfl D (0) rfl c.cells _ (range_ext hZ3) Tryz.underlying89 rfl rchSize ?_; simp only [Act.put, List.setIfInBounds_toArray, List.set_cons_succ, List.set_cons_zero])
                    | go_big_quiet_step (fail))
                  refine wpQuiet_nil ?_
                  rintro _ ⟨z4, rfl⟩
                  go_upto_region 15 with fail
                  refine wp_letter (fun W9 => UpI w W9 ∧ Hid (W9.ownsRow w.heap.size 60 11 u6 M.length (M.flatMap Ln.cells)) ∧ W9.heap[D]? = some (.cells c.cells.toArray 89 (0, 0))) ⟨inferInstance, Lib.hid (owns_up Hown.out (upI : Up wr z4.w)), (z4.up.block D (lt_of_heap hD3)).trans hD3⟩ ?_
                  clear Hown hZr c0w hDr hD3 hZ3
                  rintro W9 ⟨uW9, Hown, hDr⟩
                  haveI := uW9
                  have hZr := range_heap hDr
                  have c0w : W9.cell? ⟨D, 0, none⟩ = some (.int .u8 c.kind) := hZr 0 _ rfl
                  haveI : LtSize D W9 := ⟨cell_lt c0w⟩
                  skip
                  have HAP := Lib.hid (show (if apOk (a.drop j) c then apFrom (some c) (M ++ (if c.kind = 2 then [] else [c.new])) (if 1 < c.kind then (a.drop j).drop 1 else a.drop j) (l.drop (k + 1)) else none) = F by
                    have h := HFd.out
                    unfold apStep at h
                    rw [← HT.out.2, HTW.out.2] at h
                    simp only at h
                    rw [← HT.out.1, HTW.out.1, List.append_nil] at h
                    exact h)
                  clear HFd
                  obtain ⟨OK, hOK⟩ : ∃ OK, apOk (a.drop j) c = OK := ⟨_, rfl⟩
                  rw [hOK] at HAP
                  rename_i i0_ i1_ i2_ i3_ i4_ i5_ i6_ i7_ i8_ i9_ i10_ i11_ i12_ i13_ i14_ i15_ i16_ i17_ i18_ i19_ i20_ i21_ i22_ i23_ i24_ i25_ i26_ i27_ i28_ i29_ i30_ i31_ i32_ i33_ i34_ i35_ i36_ i37_ i38_ i39_ i40_ i41_ i42_ i43_ i44_ i45_ i46_ i47_ i48_ i49_ i50_ i51_ i52_ i53_ i54_ i55_ i56_ i57_ i58_ i59_ i60_ i61_ i62_ i63_ i64_ i65_ i66_ i67_ i68_ i69_ i70_ i71_ i72_ i73_ i74_ i75_ i76_ i77_ i78_ i79_ i80_ i81_ i82_ i83_ i84_ i85_ i86_ i87_ i88_ i89_ i90_ i91_ i92_ i93_ i94_ i95_ i96_ i97_ i98_ i99_ i100_ i101_ i102_ i103_ i104_ i105_ i106_ i107_ i108_ i109_ i110_ i111_ i112_ i113_ i114_ i115_ i116_ i117_ i118_ i119_ i120_ i121_ i122_ i123_ i124_ i125_ i126_ i127_ i128_ i129_ i130_ i131_ i132_ i133_ i134_ i135_ i136_ i137_ i138_ i139_ i140_ i141_ i142_ i143_ i144_ i145_ i146_ i147_ i148_ i149_ i150_ i151_ i152_ i153_ i154_ i155_ i156_ i157_ i158_ i159_ i160_ i161_ i162_ i163_ i164_ i165_ i166_ i167_ i168_ i169_ i170_ i171_ i172_ i173_ i174_ i175_ i176_ i177_ i178_ i179_ i180_ i181_ i182_ i183_ i184_ i185_ i186_ i187_ i188_ i189_ i190_ i191_ i192_ i193_ i194_ i195_ i196_ i197_ i198_ i199_ i200_ i201_ i202_ i203_ i204_ i205_ i206_
                  revert u50 u51 u52 u53 u54 u55 u56 u57 u58 u59 u60 u61 u62 u63 u64 u65 u66 u67 u68 u69 u70 u71 j M HT hMl hu i195_ i196_ la hlea HNA Hnil i197_ i198_ hj hja hjn HDN HTW i199_ i200_ i201_ z3 z4 i202_ i203_ i204_ i205_ W9 uW9 Hown hDr i206_ hZr c0w this OK HAP hOK
                  revert u124 u125 u126 u127 u128 u129 u130 u131 u132 u133 u134 u135 u136 u137 u138 u139 u140 u141 u142 u143 u144 u145 u146 u147 u148 u149 u150 u151 u152 u153 u154 u155 u156 u157 u158 u159 u160 u161 u162 u163 u164 u165 u166 u167 u168 u169 u170 u171 hu3 i191_ i192_ i193_ hDc hk123 hk3 i194_ wr u6 u48 u49
                  revert i183_ i184_ i185_ i186_ i187_ i188_ i189_ i190_ u72 u73 u74 u75 u76 u77 u78 u79 u80 u81 u82 u83 u84 u85 u86 u87 u88 u89 u90 u91 u92 u93 u94 u95 u96 u97 u98 u99 u100 u101 u102 u103 u104 u105 u106 u107 u108 u109 u110 u111 u112 u113 u114 u115 u116 u117 u118 u119 u120 u121 u122 u123
                  revert cb2 Hx i163_ D Z uZ i164_ i165_ i166_ hkc wc u14 u15 u16 u17 u18 u19 u20 u21 u22 u23 u24 u25 u26 u27 u28 u29 u30 u31 u32 u33 u34 u35 u36 u37 u38 u39 u40 u41 u42 u43 u44 u45 u46 i167_ i168_ i169_ i170_ i171_ i172_ i173_ i174_ i175_ i176_ i177_ i178_ i179_ i180_ i181_ i182_
                  revert i116_ i117_ i118_ i119_ i120_ i121_ i122_ i123_ i124_ i125_ i126_ i127_ i128_ i129_ i130_ i131_ i132_ i133_ i134_ i135_ i136_ i137_ i138_ i139_ i140_ i141_ i142_ i143_ i144_ i145_ i146_ i147_ i148_ i149_ i150_ i151_ i152_ i153_ i154_ i155_ i156_ i157_ i158_ i159_ i160_ i161_ k j0 M0 hk i162_ hlt hlt' k0 c b1 o1 Hc hb1 cb1
                  revert i56_ i57_ i58_ i59_ i60_ i61_ i62_ i63_ i64_ i65_ i66_ i67_ i68_ i69_ i70_ i71_ i72_ i73_ i74_ i75_ i76_ i77_ i78_ i79_ i80_ i81_ i82_ i83_ i84_ i85_ i86_ i87_ i88_ i89_ i90_ i91_ i92_ i93_ i94_ i95_ i96_ i97_ i98_ i99_ i100_ i101_ i102_ i103_ i104_ i105_ i106_ i107_ i108_ i109_ i110_ i111_ i112_ i113_ i114_ i115_
                  revert i1_ i2_ i3_ u4 u5 i4_ u9 u10 i5_ i6_ i7_ i8_ i9_ i10_ i11_ i12_ i13_ i14_ i15_ i16_ i17_ i18_ i19_ i20_ i21_ i22_ i23_ i24_ i25_ i26_ i27_ i28_ i29_ i30_ i31_ i32_ i33_ i34_ i35_ i36_ i37_ u47 i38_ i39_ i40_ i41_ i42_ i43_ i44_ i45_ i46_ i47_ i48_ i49_ i50_ i51_ i52_ i53_ i54_ i55_
                  revert a l base0 w F cap pa capa N ll hle HN HCA Hba Hbl Hsom i0 Hi Hy0 Hy1 Hy2 HF i0_ z1
                  exact hR2
        · obtain rfl : k = N := by omega
          have HE := Lib.hid (show F = some (M0 ++ a.drop j0) by rw [← HFk.out, show l.drop k = [] from List.drop_of_length_le (by rw [HN.out]; exact Nat.le_refl _)]; rfl)
          clear HFk
          have hjl0 : (0 : Int) ≤ (j0 : Int) ∧ (j0 : Int) ≤ (NA : Int) ∧ (j0 : Int) ≤ (capa : Int) := by omega
          obtain ⟨e1, e2, e3⟩ := hjl0
          cases pa with
          | none =>
            obtain ⟨rfl, rfl⟩ := Hnil.out rfl
            obtain rfl : j0 = 0 := by omega
            have ha0 : a = [] := List.length_eq_zero_iff.1 HNA.out
            go_wp2_with (refine wpList_append_own_none rfl _ _ 75 rfl w.heap.size 60 i0 11 Tryz.underlying75 Hi.out _ _ _ rfl Hown0.out rfl ?_)
            go_ret2
            exact ⟨by rw [HE.out, ha0, List.drop_nil, List.append_nil]; exact ⟨_, rfl, Hown0.out⟩, hu.mk⟩
          | some q =>
            obtain ⟨g, rfl⟩ := Hsom.out q rfl
            have hal : ∀ (W : World), Up w W → ∀ (t : Nat) u, ((a.drop j0).flatMap Ln.cells)[t]? = some u → W.cell? (Addr.add ⟨g, j0 * 11, none⟩ t) = some u := fun W h t u ht => by
              rw [add_off]
              have hfl := flat_length (cells := Ln.cells) (fun z => z.cells_length) (a.drop j0)
              have htl : t < (a.drop j0).length * 11 := by rw [← hfl]; exact (List.getElem?_eq_some_iff.1 ht).1
              rw [List.length_drop, HNA.out] at htl
              obtain ⟨z, hz⟩ : ∃ z, a[j0 + t / 11]? = some z := ⟨_, List.getElem?_eq_getElem (by rw [HNA.out]; omega)⟩
              have hzz : ((a.drop j0).flatMap Ln.cells)[(t / 11) * 11 + t % 11]? = z.cells[t % 11]? := by
                obtain ⟨v, hv⟩ : ∃ v, z.cells[t % 11]? = some v := ⟨_, List.getElem?_eq_getElem (by rw [z.cells_length]; omega)⟩
                rw [hv]
                exact flat_at Ln.cells_length (a.drop j0) (t / 11) (t % 11) z v (by rw [List.getElem?_drop]; exact hz) hv
              rw [show (t / 11) * 11 + t % 11 = t by omega, ht] at hzz
              obtain ⟨b', o', hp', _, hcz⟩ := HCA.out (j0 + t / 11) z hz
              simp only [Option.some.injEq, Addr.mk.injEq, and_true] at hp'
              obtain ⟨rfl, rfl⟩ := hp'
              have := h.cell_some (hcz (t % 11) u hzz.symm)
              rwa [show 0 + (j0 + t / 11) * 11 + t % 11 = j0 * 11 + t by omega] at this
            have hl2 : ((a.drop j0).flatMap Ln.cells).length = (NA - j0) * 11 := by rw [flat_length (cells := Ln.cells) (fun z => z.cells_length), List.length_drop, HNA.out]
            have hl3 : (a.drop j0).length = NA - j0 := by rw [List.length_drop, HNA.out]
            have HLe := ap_end M0.length j0 k NA hMl0 hj0 la ll
            have Hal := Lib.hid hal; have Hl2 := Lib.hid hl2; have Hl3 := Lib.hid hl3
            clear hal hl2 hl3
            by_cases hcj : capa = j0
            · have hnd : (a.drop j0).flatMap Ln.cells = [] := List.length_eq_zero_iff.1 (by rw [Hl2.out]; omega)
              have Hnd := Lib.hid hnd
              clear hnd
              go_wp2_with (at_builtin; (with_reducible refine held ?_); refine H_append_own rfl _ _ 75 rfl w.heap.size 60 i0 Ln.zero.val 11 40 Tryz.underlying75 Hi.out Hy0.out Hy1.out Hy2.out rfl (by decide) _ _ _ rfl Hown0.out ⟨g, 0, none⟩ (NA - j0) _ ((a.drop j0).flatMap Ln.cells) rfl Hl2.out (fun t u h => by rw [Hnd.out] at h; cases h) (flat_one _) HLe.p1 HLe.p2 (upI : Up w _).size ?_; intro v' w1 hown' hgrow _)
              have hu1 : Up w w1 := Up.grown (upI : Up w _) hgrow (owns_row Hown0.out)
              have Hown' := Lib.hid hown'
              clear hown' hgrow
              go_wp2_with fail
              go_ret2
              exact ⟨by rw [HE.out]; exact ⟨_, rfl, by rw [List.length_append, Hl3.out, List.flatMap_append]; exact Hown'.out⟩, hu1.mk⟩
            · go_wp2_with (at_builtin; (with_reducible refine held ?_); refine H_append_own rfl _ _ 75 rfl w.heap.size 60 i0 Ln.zero.val 11 40 Tryz.underlying75 Hi.out Hy0.out Hy1.out Hy2.out rfl (by decide) _ _ _ rfl Hown0.out ⟨g, j0 * 11, none⟩ (NA - j0) _ ((a.drop j0).flatMap Ln.cells) rfl Hl2.out (Hal.out _ upI) (flat_one _) HLe.p1 HLe.p2 (upI : Up w _).size ?_; intro v' w1 hown' hgrow _)
              have hu1 : Up w w1 := Up.grown (upI : Up w _) hgrow (owns_row Hown0.out)
              have Hown' := Lib.hid hown'
              clear hown' hgrow
              go_wp2_with fail
              go_ret2
              exact ⟨by rw [HE.out]; exact ⟨_, rfl, by rw [List.length_append, Hl3.out, List.flatMap_append]; exact Hown'.out⟩, hu1.mk⟩

end Go.Proofs.YtlbbepgfjigjpaaGreatDoor
namespace Go.Proofs.YtlbbepgfjigjpaaGreatDoor
open Go.RowKit Go.Ab
attribute [local go_sem high] eq_rln eq_key wrapI wrapK
set_option maxHeartbeats 64000000 in
set_option maxRecDepth 100000 in
noncomputable def rapRB : PSigma (fun R1 : Prop => PSigma (fun R2 : Prop => PSigma (fun R3 : Prop => R1 → R2 → R3 → rapPart.1))) := by
  apply PSigma.mk
  case snd =>
    apply PSigma.mk
    case snd =>
      apply PSigma.mk
      case snd =>
        intro hR1 hR2 hR3
        unfold rapPart
        intro a l base0 w F cap capa N ll hle NA la hlea HN HNA Hba Hbl i0 Hi Hy0 Hy1 Hy2 HF i0_ z1 i1_ i2_ i3_ u4 u5 i4_ u9 u10 i5_ i6_ i7_ i8_ i9_ i10_ i11_ i12_ i13_ i14_ i15_ i16_ i17_ i18_ i19_ i20_ i21_ i22_ i23_ i24_ i25_ i26_ i27_ i28_ i29_ i30_ i31_
        intro i32_ i33_ i34_ i35_ i36_ i37_ u47 i38_ i39_ i40_ i41_ i42_ i43_ i44_ i45_ i46_ i47_ i48_ i49_ i50_ i51_ i52_ i53_ i54_ i55_ i56_ i57_ i58_ i59_ i60_ i61_ i62_ i63_ i64_ i65_ i66_ i67_ i68_ i69_ i70_ i71_ i72_ i73_ i74_ i75_ i76_ i77_ i78_ i79_ i80_ i81_ i82_ i83_ i84_ i85_ i86_ i87_ i88_ i89_ i90_
        intro i91_ i92_ i93_ i94_ i95_ i96_ i97_ i98_ i99_ i100_ i101_ i102_ i103_ i104_ i105_ i106_ i107_ i108_ i109_ i110_ i111_ i112_ i113_ i114_ i115_ i116_ i117_ i118_ i119_ i120_ i121_ i122_ i123_ i124_ i125_ i126_ i127_ i128_ i129_ i130_ i131_ i132_ i133_ i134_ i135_ i136_ i137_ i138_ i139_ i140_ i141_ i142_ i143_ i144_ i145_ i146_ i147_ i148_ i149_ i150_
        intro i151_ i152_ i153_ i154_ i155_ i156_ i157_ i158_ i159_ i160_ i161_ k j0 M0 hk i162_ hlt hlt' k0 c b1 o1 Hc hb1 cb1 cb2 Hx i163_ D Z uZ i164_ i165_ i166_ hkc wc u14 u15 u16 u17 u18 u19 u20 u21 u22 u23 u24 u25 u26 u27 u28 u29 u30 u31 u32 u33 u34 u35 u36 u37
        intro u38 u39 u40 u41 u42 u43 u44 u45 u46 i167_ i168_ i169_ i170_ i171_ i172_ i173_ i174_ i175_ i176_ i177_ i178_ i179_ i180_ i181_ i182_ i183_ i184_ i185_ i186_ i187_ i188_ i189_ i190_ u72 u73 u74 u75 u76 u77 u78 u79 u80 u81 u82 u83 u84 u85 u86 u87 u88 u89 u90 u91 u92 u93 u94 u95 u96 u97 u98
        intro u99 u100 u101 u102 u103 u104 u105 u106 u107 u108 u109 u110 u111 u112 u113 u114 u115 u116 u117 u118 u119 u120 u121 u122 u123 u124 u125 u126 u127 u128 u129 u130 u131 u132 u133 u134 u135 u136 u137 u138 u139 u140 u141 u142 u143 u144 u145 u146 u147 u148 u149 u150 u151 u152 u153 u154 u155 u156 u157 u158
        intro u159 u160 u161 u162 u163 u164 u165 u166 u167 u168 u169 u170 u171 hu3 i191_ i192_ i193_ hDc hk123 hk3 i194_ wr u6 u48 u49 u50 u51 u52 u53 u54 u55 u56 u57 u58 u59 u60 u61 u62 u63 u64 u65 u66 u67 u68 u69 u70 u71 j M hj HT hMl hu i195_ i196_ hja hja' jj0 y b2
        intro o2 HCA Hnil Hsom i197_ i198_ hb2 i199_ C Hy HC i200_ i201_ i202_ hC0 HTW HDH z3 there hthere hthU z4 i203_ i204_ i205_ i206_ W9 uW9 Hown hDr hY i207_ hZr c0w this hYk OK HAP hOK
        go_cut [158] (fun v wx => v = .bool (!OK) ∧ UpI W9 wx)
        case first =>
          have hOld := ch_old hZr
          have hNew := ch_new hZr
          rw [Nat.zero_add] at hOld hNew
          have hOldK := range_key hOld
          have hNewK := range_key hNew
          rcases hk3 with hkind | hkind | hkind
          · skip
            rename_i i0_ i1_ i2_ i3_
            revert M hj HT hMl hu i195_ i196_ hja hja' jj0 y b2 o2 HCA Hnil Hsom i197_ i198_ hb2 i199_ C Hy HC i200_ i201_ i202_ hC0 HTW HDH z3 there hthere hthU z4 i203_ i204_ i205_ i206_ W9 uW9 Hown hDr hY i207_ hZr c0w this hYk OK HAP hOK i0_ i1_ i2_ i3_ hOld hNew hOldK hNewK hkind
            revert u146 u147 u148 u149 u150 u151 u152 u153 u154 u155 u156 u157 u158 u159 u160 u161 u162 u163 u164 u165 u166 u167 u168 u169 u170 u171 hu3 i191_ i192_ i193_ hDc hk123 i194_ wr u6 u48 u49 u50 u51 u52 u53 u54 u55 u56 u57 u58 u59 u60 u61 u62 u63 u64 u65 u66 u67 u68 u69 u70 u71 j
            revert u86 u87 u88 u89 u90 u91 u92 u93 u94 u95 u96 u97 u98 u99 u100 u101 u102 u103 u104 u105 u106 u107 u108 u109 u110 u111 u112 u113 u114 u115 u116 u117 u118 u119 u120 u121 u122 u123 u124 u125 u126 u127 u128 u129 u130 u131 u132 u133 u134 u135 u136 u137 u138 u139 u140 u141 u142 u143 u144 u145
            revert u25 u26 u27 u28 u29 u30 u31 u32 u33 u34 u35 u36 u37 u38 u39 u40 u41 u42 u43 u44 u45 u46 i167_ i168_ i169_ i170_ i171_ i172_ i173_ i174_ i175_ i176_ i177_ i178_ i179_ i180_ i181_ i182_ i183_ i184_ i185_ i186_ i187_ i188_ i189_ i190_ u72 u73 u74 u75 u76 u77 u78 u79 u80 u81 u82 u83 u84 u85
            revert i138_ i139_ i140_ i141_ i142_ i143_ i144_ i145_ i146_ i147_ i148_ i149_ i150_ i151_ i152_ i153_ i154_ i155_ i156_ i157_ i158_ i159_ i160_ i161_ k j0 M0 hk i162_ hlt hlt' k0 c b1 o1 Hc hb1 cb1 cb2 Hx i163_ D Z uZ i164_ i165_ i166_ hkc wc u14 u15 u16 u17 u18 u19 u20 u21 u22 u23 u24
            revert i78_ i79_ i80_ i81_ i82_ i83_ i84_ i85_ i86_ i87_ i88_ i89_ i90_ i91_ i92_ i93_ i94_ i95_ i96_ i97_ i98_ i99_ i100_ i101_ i102_ i103_ i104_ i105_ i106_ i107_ i108_ i109_ i110_ i111_ i112_ i113_ i114_ i115_ i116_ i117_ i118_ i119_ i120_ i121_ i122_ i123_ i124_ i125_ i126_ i127_ i128_ i129_ i130_ i131_ i132_ i133_ i134_ i135_ i136_ i137_
            revert i19_ i20_ i21_ i22_ i23_ i24_ i25_ i26_ i27_ i28_ i29_ i30_ i31_ i32_ i33_ i34_ i35_ i36_ i37_ u47 i38_ i39_ i40_ i41_ i42_ i43_ i44_ i45_ i46_ i47_ i48_ i49_ i50_ i51_ i52_ i53_ i54_ i55_ i56_ i57_ i58_ i59_ i60_ i61_ i62_ i63_ i64_ i65_ i66_ i67_ i68_ i69_ i70_ i71_ i72_ i73_ i74_ i75_ i76_ i77_
            revert a l base0 w F cap capa N ll hle NA la hlea HN HNA Hba Hbl i0 Hi Hy0 Hy1 Hy2 HF i0_ z1 i1_ i2_ i3_ u4 u5 i4_ u9 u10 i5_ i6_ i7_ i8_ i9_ i10_ i11_ i12_ i13_ i14_ i15_ i16_ i17_ i18_
            exact hR1
          · skip
            rename_i i0_ i1_ i2_ i3_
            revert M hj HT hMl hu i195_ i196_ hja hja' jj0 y b2 o2 HCA Hnil Hsom i197_ i198_ hb2 i199_ C Hy HC i200_ i201_ i202_ hC0 HTW HDH z3 there hthere hthU z4 i203_ i204_ i205_ i206_ W9 uW9 Hown hDr hY i207_ hZr c0w this hYk OK HAP hOK i0_ i1_ i2_ i3_ hOld hNew hOldK hNewK hkind
            revert u146 u147 u148 u149 u150 u151 u152 u153 u154 u155 u156 u157 u158 u159 u160 u161 u162 u163 u164 u165 u166 u167 u168 u169 u170 u171 hu3 i191_ i192_ i193_ hDc hk123 i194_ wr u6 u48 u49 u50 u51 u52 u53 u54 u55 u56 u57 u58 u59 u60 u61 u62 u63 u64 u65 u66 u67 u68 u69 u70 u71 j
            revert u86 u87 u88 u89 u90 u91 u92 u93 u94 u95 u96 u97 u98 u99 u100 u101 u102 u103 u104 u105 u106 u107 u108 u109 u110 u111 u112 u113 u114 u115 u116 u117 u118 u119 u120 u121 u122 u123 u124 u125 u126 u127 u128 u129 u130 u131 u132 u133 u134 u135 u136 u137 u138 u139 u140 u141 u142 u143 u144 u145
            revert u25 u26 u27 u28 u29 u30 u31 u32 u33 u34 u35 u36 u37 u38 u39 u40 u41 u42 u43 u44 u45 u46 i167_ i168_ i169_ i170_ i171_ i172_ i173_ i174_ i175_ i176_ i177_ i178_ i179_ i180_ i181_ i182_ i183_ i184_ i185_ i186_ i187_ i188_ i189_ i190_ u72 u73 u74 u75 u76 u77 u78 u79 u80 u81 u82 u83 u84 u85
            revert i138_ i139_ i140_ i141_ i142_ i143_ i144_ i145_ i146_ i147_ i148_ i149_ i150_ i151_ i152_ i153_ i154_ i155_ i156_ i157_ i158_ i159_ i160_ i161_ k j0 M0 hk i162_ hlt hlt' k0 c b1 o1 Hc hb1 cb1 cb2 Hx i163_ D Z uZ i164_ i165_ i166_ hkc wc u14 u15 u16 u17 u18 u19 u20 u21 u22 u23 u24
            revert i78_ i79_ i80_ i81_ i82_ i83_ i84_ i85_ i86_ i87_ i88_ i89_ i90_ i91_ i92_ i93_ i94_ i95_ i96_ i97_ i98_ i99_ i100_ i101_ i102_ i103_ i104_ i105_ i106_ i107_ i108_ i109_ i110_ i111_ i112_ i113_ i114_ i115_ i116_ i117_ i118_ i119_ i120_ i121_ i122_ i123_ i124_ i125_ i126_ i127_ i128_ i129_ i130_ i131_ i132_ i133_ i134_ i135_ i136_ i137_
            revert i19_ i20_ i21_ i22_ i23_ i24_ i25_ i26_ i27_ i28_ i29_ i30_ i31_ i32_ i33_ i34_ i35_ i36_ i37_ u47 i38_ i39_ i40_ i41_ i42_ i43_ i44_ i45_ i46_ i47_ i48_ i49_ i50_ i51_ i52_ i53_ i54_ i55_ i56_ i57_ i58_ i59_ i60_ i61_ i62_ i63_ i64_ i65_ i66_ i67_ i68_ i69_ i70_ i71_ i72_ i73_ i74_ i75_ i76_ i77_
            revert a l base0 w F cap capa N ll hle NA la hlea HN HNA Hba Hbl i0 Hi Hy0 Hy1 Hy2 HF i0_ z1 i1_ i2_ i3_ u4 u5 i4_ u9 u10 i5_ i6_ i7_ i8_ i9_ i10_ i11_ i12_ i13_ i14_ i15_ i16_ i17_ i18_
            exact hR2
          · skip
            rename_i i0_ i1_ i2_ i3_
            revert M hj HT hMl hu i195_ i196_ hja hja' jj0 y b2 o2 HCA Hnil Hsom i197_ i198_ hb2 i199_ C Hy HC i200_ i201_ i202_ hC0 HTW HDH z3 there hthere hthU z4 i203_ i204_ i205_ i206_ W9 uW9 Hown hDr hY i207_ hZr c0w this hYk OK HAP hOK i0_ i1_ i2_ i3_ hOld hNew hOldK hNewK hkind
            revert u146 u147 u148 u149 u150 u151 u152 u153 u154 u155 u156 u157 u158 u159 u160 u161 u162 u163 u164 u165 u166 u167 u168 u169 u170 u171 hu3 i191_ i192_ i193_ hDc hk123 i194_ wr u6 u48 u49 u50 u51 u52 u53 u54 u55 u56 u57 u58 u59 u60 u61 u62 u63 u64 u65 u66 u67 u68 u69 u70 u71 j
            revert u86 u87 u88 u89 u90 u91 u92 u93 u94 u95 u96 u97 u98 u99 u100 u101 u102 u103 u104 u105 u106 u107 u108 u109 u110 u111 u112 u113 u114 u115 u116 u117 u118 u119 u120 u121 u122 u123 u124 u125 u126 u127 u128 u129 u130 u131 u132 u133 u134 u135 u136 u137 u138 u139 u140 u141 u142 u143 u144 u145
            revert u25 u26 u27 u28 u29 u30 u31 u32 u33 u34 u35 u36 u37 u38 u39 u40 u41 u42 u43 u44 u45 u46 i167_ i168_ i169_ i170_ i171_ i172_ i173_ i174_ i175_ i176_ i177_ i178_ i179_ i180_ i181_ i182_ i183_ i184_ i185_ i186_ i187_ i188_ i189_ i190_ u72 u73 u74 u75 u76 u77 u78 u79 u80 u81 u82 u83 u84 u85
            revert i138_ i139_ i140_ i141_ i142_ i143_ i144_ i145_ i146_ i147_ i148_ i149_ i150_ i151_ i152_ i153_ i154_ i155_ i156_ i157_ i158_ i159_ i160_ i161_ k j0 M0 hk i162_ hlt hlt' k0 c b1 o1 Hc hb1 cb1 cb2 Hx i163_ D Z uZ i164_ i165_ i166_ hkc wc u14 u15 u16 u17 u18 u19 u20 u21 u22 u23 u24
            revert i78_ i79_ i80_ i81_ i82_ i83_ i84_ i85_ i86_ i87_ i88_ i89_ i90_ i91_ i92_ i93_ i94_ i95_ i96_ i97_ i98_ i99_ i100_ i101_ i102_ i103_ i104_ i105_ i106_ i107_ i108_ i109_ i110_ i111_ i112_ i113_ i114_ i115_ i116_ i117_ i118_ i119_ i120_ i121_ i122_ i123_ i124_ i125_ i126_ i127_ i128_ i129_ i130_ i131_ i132_ i133_ i134_ i135_ i136_ i137_
            revert i19_ i20_ i21_ i22_ i23_ i24_ i25_ i26_ i27_ i28_ i29_ i30_ i31_ i32_ i33_ i34_ i35_ i36_ i37_ u47 i38_ i39_ i40_ i41_ i42_ i43_ i44_ i45_ i46_ i47_ i48_ i49_ i50_ i51_ i52_ i53_ i54_ i55_ i56_ i57_ i58_ i59_ i60_ i61_ i62_ i63_ i64_ i65_ i66_ i67_ i68_ i69_ i70_ i71_ i72_ i73_ i74_ i75_ i76_ i77_
            revert a l base0 w F cap capa N ll hle NA la hlea HN HNA Hba Hbl i0 Hi Hy0 Hy1 Hy2 HF i0_ z1 i1_ i2_ i3_ u4 u5 i4_ u9 u10 i5_ i6_ i7_ i8_ i9_ i10_ i11_ i12_ i13_ i14_ i15_ i16_ i17_ i18_
            exact hR3
        case rest =>
          obtain ⟨rfl, hu7⟩ := hcut
          haveI := hu7
          haveI : UpI w wc := ⟨(upI : Up w W9).trans hu7.up⟩
          cases OK
          case false =>
            have HE := Lib.hid (show F = none by rw [← HAP.out]; rfl)
            go_wp2_with fail
            go_ret2
            exact ⟨by rw [HE.out]; rfl, mkI⟩
          case true =>
            have HAQ := Lib.hid (show apFrom (some c) (M ++ (if c.kind = 2 then [] else [c.new])) (if 1 < c.kind then (a.drop j).drop 1 else a.drop j) (l.drop (k + 1)) = F by rw [← HAP.out]; rfl)
            have hZr2 : wc.rangeAt D 0 c.cells := fun t u ht => hu7.up.cell_some' (hZr t u ht)
            haveI : LtSize D wc := ⟨cell_lt (hZr2 0 _ rfl)⟩
            have hNewZ := ch_new hZr2
            rw [Nat.zero_add] at hNewZ
            have HownW := Lib.hid (owns_up Hown.out hu7.up)
            have HPv := Lib.hid (show prevOf l (k + 1) = some c by unfold prevOf; rw [if_neg (by omega), Nat.add_sub_cancel]; exact Hx.out)
            have hOKt := hOK
            clear Hown HAP hOK hZr HT HTW hDr
            have Hown := HownW
            clear HownW
            rcases hk3 with hkind | hkind | hkind
            · have c0 : wc.cell? ⟨D, 0, none⟩ = some (.int .u8 1) := by rw [← hkind]; exact hZr2 0 _ rfl
              have HNX := Lib.hid (show apFrom (prevOf l (k + 1)) (M ++ [c.new]) (a.drop (j)) (l.drop (k + 1)) = F by
                rw [HPv.out, ← HAQ.out, hkind]
                simp [List.drop_drop])
              have HLn := ap_len M.length j k NA N hMl hj la hlt ll
              go_wp2_with (first
                | ((with_reducible refine held ?_); refine H_load_mid rfl 60 _ rfl D 12 rfl c.new.cells _ hNewZ Tryz.underlying60 rfl rlnSize ?_)
                | ((with_reducible refine held ?_); refine H_sliceRun rfl 75 1 _ rfl #[(0, .agg c.new.cells.toArray)] (by kernel_rfl) _ _ (slice_rline c.new _) ?_)
                | (at_builtin; (with_reducible refine held ?_); refine H_append_own rfl _ _ 75 rfl w.heap.size 60 i0 Ln.zero.val 11 40 Tryz.underlying75 Hi.out Hy0.out Hy1.out Hy2.out rfl (by decide) _ _ _ rfl (owns_up Hown.out (upI : Up wc _)) ⟨_, 0, none⟩ 1 1 c.new.cells rfl rfl ?c1 ?c2 ?c3 ?c4 ?c5 ?_))
              case c1 => intro t u ht; (first | exact ln_at wc c.new _ t u ht | (rw [lnBlk_one]; exact ln_at wc c.new _ t u ht) | (rw [List.getElem?_toArray]; exact ht) | simpa using ht)
              case c2 => exact fun u h => c.new.one u h
              case c3 => exact HLn.p1
              case c4 => exact HLn.p2
              case c5 => first | exact Nat.le_succ_of_le (upI : Up w wc).size | exact (upI : Up w _).size
              intro v' w1 hown' hgrow _
              have hu1 : Up w w1 := Up.grown (upI : Up w _) hgrow (owns_row Hown.out)
              have Hown' := Lib.hid hown'
              clear hown'
              go_wp2_with fail
              go_roundw
              case rel => exact ⟨k + 1, j, M ++ [c.new], Nat.succ_le_of_lt hlt, hj, by go_num, by go_num, HNX, by rw [List.length_append, List.length_singleton]; omega, Lib.hid (by rw [List.length_append, List.flatMap_append]; simpa using Hown'.out), hu1⟩
              case measure => simp [intOf]; omega
            · have c0 : wc.cell? ⟨D, 0, none⟩ = some (.int .u8 2) := by rw [← hkind]; exact hZr2 0 _ rfl
              have HNX := Lib.hid (show apFrom (prevOf l (k + 1)) (M) (a.drop (j + 1)) (l.drop (k + 1)) = F by
                rw [HPv.out, ← HAQ.out, hkind]
                simp [List.drop_drop])
              have HLn := ap_len M.length j k NA N hMl hj la hlt ll
              go_wp2_with fail
              go_roundw
              case rel => exact ⟨k + 1, j + 1, M, Nat.succ_le_of_lt hlt, Nat.succ_le_of_lt hja, by go_num, by go_num, HNX, by omega, Lib.hid (owns_up Hown.out (upI : Up wc _)), upI⟩
              case measure => simp [intOf]; omega
            · have c0 : wc.cell? ⟨D, 0, none⟩ = some (.int .u8 3) := by rw [← hkind]; exact hZr2 0 _ rfl
              have HNX := Lib.hid (show apFrom (prevOf l (k + 1)) (M ++ [c.new]) (a.drop (j + 1)) (l.drop (k + 1)) = F by
                rw [HPv.out, ← HAQ.out, hkind]
                simp [List.drop_drop])
              have HLn := ap_len M.length j k NA N hMl hj la hlt ll
              go_wp2_with (first
                | ((with_reducible refine held ?_); refine H_load_mid rfl 60 _ rfl D 12 rfl c.new.cells _ hNewZ Tryz.underlying60 rfl rlnSize ?_)
                | ((with_reducible refine held ?_); refine H_sliceRun rfl 75 1 _ rfl #[(0, .agg c.new.cells.toArray)] (by kernel_rfl) _ _ (slice_rline c.new _) ?_)
                | (at_builtin; (with_reducible refine held ?_); refine H_append_own rfl _ _ 75 rfl w.heap.size 60 i0 Ln.zero.val 11 40 Tryz.underlying75 Hi.out Hy0.out Hy1.out Hy2.out rfl (by decide) _ _ _ rfl (owns_up Hown.out (upI : Up wc _)) ⟨_, 0, none⟩ 1 1 c.new.cells rfl rfl ?c1 ?c2 ?c3 ?c4 ?c5 ?_))
              case c1 => intro t u ht; (first | exact ln_at wc c.new _ t u ht | (rw [lnBlk_one]; exact ln_at wc c.new _ t u ht) | (rw [List.getElem?_toArray]; exact ht) | simpa using ht)
              case c2 => exact fun u h => c.new.one u h
              case c3 => exact HLn.p1
              case c4 => exact HLn.p2
              case c5 => first | exact Nat.le_succ_of_le (upI : Up w wc).size | exact (upI : Up w _).size
              intro v' w1 hown' hgrow _
              have hu1 : Up w w1 := Up.grown (upI : Up w _) hgrow (owns_row Hown.out)
              have Hown' := Lib.hid hown'
              clear hown'
              go_wp2_with fail
              go_roundw
              case rel => exact ⟨k + 1, j + 1, M ++ [c.new], Nat.succ_le_of_lt hlt, Nat.succ_le_of_lt hja, by go_num, by go_num, HNX, by rw [List.length_append, List.length_singleton]; omega, Lib.hid (by rw [List.length_append, List.flatMap_append]; simpa using Hown'.out), hu1⟩
              case measure => simp [intOf]; omega

set_option maxHeartbeats 64000000 in
set_option maxRecDepth 100000 in
theorem rapKB1 : rapRB.1 := by
  unfold rapRB
  intro a l base0 w F cap capa N ll hle NA la hlea HN HNA Hba Hbl i0 Hi Hy0 Hy1 Hy2 HF i0_ z1 i1_ i2_ i3_ u4 u5 i4_ u9 u10 i5_ i6_ i7_ i8_ i9_ i10_ i11_ i12_ i13_ i14_ i15_ i16_ i17_ i18_ i19_ i20_ i21_ i22_ i23_ i24_ i25_ i26_ i27_ i28_ i29_ i30_ i31_
  intro i32_ i33_ i34_ i35_ i36_ i37_ u47 i38_ i39_ i40_ i41_ i42_ i43_ i44_ i45_ i46_ i47_ i48_ i49_ i50_ i51_ i52_ i53_ i54_ i55_ i56_ i57_ i58_ i59_ i60_ i61_ i62_ i63_ i64_ i65_ i66_ i67_ i68_ i69_ i70_ i71_ i72_ i73_ i74_ i75_ i76_ i77_ i78_ i79_ i80_ i81_ i82_ i83_ i84_ i85_ i86_ i87_ i88_ i89_ i90_
  intro i91_ i92_ i93_ i94_ i95_ i96_ i97_ i98_ i99_ i100_ i101_ i102_ i103_ i104_ i105_ i106_ i107_ i108_ i109_ i110_ i111_ i112_ i113_ i114_ i115_ i116_ i117_ i118_ i119_ i120_ i121_ i122_ i123_ i124_ i125_ i126_ i127_ i128_ i129_ i130_ i131_ i132_ i133_ i134_ i135_ i136_ i137_ i138_ i139_ i140_ i141_ i142_ i143_ i144_ i145_ i146_ i147_ i148_ i149_ i150_
  intro i151_ i152_ i153_ i154_ i155_ i156_ i157_ i158_ i159_ i160_ i161_ k j0 M0 hk i162_ hlt hlt' k0 c b1 o1 Hc hb1 cb1 cb2 Hx i163_ D Z uZ i164_ i165_ i166_ hkc wc u14 u15 u16 u17 u18 u19 u20 u21 u22 u23 u24 u25 u26 u27 u28 u29 u30 u31 u32 u33 u34 u35 u36 u37
  intro u38 u39 u40 u41 u42 u43 u44 u45 u46 i167_ i168_ i169_ i170_ i171_ i172_ i173_ i174_ i175_ i176_ i177_ i178_ i179_ i180_ i181_ i182_ i183_ i184_ i185_ i186_ i187_ i188_ i189_ i190_ u72 u73 u74 u75 u76 u77 u78 u79 u80 u81 u82 u83 u84 u85 u86 u87 u88 u89 u90 u91 u92 u93 u94 u95 u96 u97 u98
  intro u99 u100 u101 u102 u103 u104 u105 u106 u107 u108 u109 u110 u111 u112 u113 u114 u115 u116 u117 u118 u119 u120 u121 u122 u123 u124 u125 u126 u127 u128 u129 u130 u131 u132 u133 u134 u135 u136 u137 u138 u139 u140 u141 u142 u143 u144 u145 u146 u147 u148 u149 u150 u151 u152 u153 u154 u155 u156 u157 u158
  intro u159 u160 u161 u162 u163 u164 u165 u166 u167 u168 u169 u170 u171 hu3 i191_ i192_ i193_ hDc hk123 i194_ wr u6 u48 u49 u50 u51 u52 u53 u54 u55 u56 u57 u58 u59 u60 u61 u62 u63 u64 u65 u66 u67 u68 u69 u70 u71 j M hj HT hMl hu i195_ i196_ hja hja' jj0 y b2 o2
  intro HCA Hnil Hsom i197_ i198_ hb2 i199_ C Hy HC i200_ i201_ i202_ hC0 HTW HDH z3 there hthere hthU z4 i203_ i204_ i205_ i206_ W9 uW9 Hown hDr hY i207_ hZr c0w this hYk OK HAP hOK i0_ i1_ i2_ i3_ hOld hNew hOldK hNewK hkind
  have c0 : W9.cell? ⟨D, 0, none⟩ = some (.int .u8 1) := by rw [← hkind]; exact c0w
  obtain ⟨oldz, holdz⟩ : ∃ b, decide (c.old = Ln.zero) = b := ⟨_, rfl⟩
  obtain ⟨newr, hnewr⟩ : ∃ b, c.new.right = b := ⟨_, rfl⟩
  have hrt : ∀ W, Gives Tryz.prog 19 #[.agg c.new.cells.toArray] W (.bool newr) := fun W => (rright38_any c.new W cb2).cast (by rw [hnewr])
  have hap : apOk (a.drop j) c = (!there && (oldz && newr)) := by rw [HDH.out]; rw [apOk_1h hkind, hthere, holdz, hnewr]
  skip
  cases there
  · skip
    cases oldz
    · skip
      have hval : apOk (a.drop j) c = false := hap.trans (by cases newr <;> rfl)
      obtain rfl : OK = false := by rw [← hOK]; exact hval
      clear hval hOK
      refine wp_region_ext (by kernel_rfl) (by kernel_rfl) ?_
      (try dsimp only [List.append])
      repeat (first
        | go_big_quiet_skip
        | ((with_reducible refine held ?_); refine HQ_load_mid (by kernel_rfl) 89 _ rfl D (0) rfl c.cells _ (range_ext hZr) Tryz.underlying89 rfl rchSize ?_; simp only [Act.put, List.setIfInBounds_toArray, List.set_cons_succ, List.set_cons_zero])
        | ((with_reducible refine held ?_); refine HQ_load_mid (by kernel_rfl) 60 _ rfl D (1) rfl c.old.cells _ (range_ext hOld) Tryz.underlying60 rfl rlnSize ?_; simp only [Act.put, List.setIfInBounds_toArray, List.set_cons_succ, List.set_cons_zero])
        | ((with_reducible refine held ?_); refine HQ_load_mid (by kernel_rfl) 60 _ rfl D (12) rfl c.new.cells _ (range_ext hNew) Tryz.underlying60 rfl rlnSize ?_; simp only [Act.put, List.setIfInBounds_toArray, List.set_cons_succ, List.set_cons_zero])
        | ((with_reducible refine held ?_); refine HQ_load_mid (by kernel_rfl) 29 _ rfl D (1) rfl [.int .u8 c.old.pr, .int .u32 c.old.s, .int .u32 c.old.d, .int .u16 c.old.sp, .int .u16 c.old.dp] _ (range_ext hOldK) Tryz.underlying29 rfl keySize ?_; simp only [Act.put, List.setIfInBounds_toArray, List.set_cons_succ, List.set_cons_zero])
        | ((with_reducible refine held ?_); refine HQ_load_mid (by kernel_rfl) 29 _ rfl D (12) rfl [.int .u8 c.new.pr, .int .u32 c.new.s, .int .u32 c.new.d, .int .u16 c.new.sp, .int .u16 c.new.dp] _ (range_ext hNewK) Tryz.underlying29 rfl keySize ?_; simp only [Act.put, List.setIfInBounds_toArray, List.set_cons_succ, List.set_cons_zero])
        | ((with_reducible refine held ?_); refine HQ_load_mid (by kernel_rfl) 29 _ rfl b2 (o2 + j * 11) rfl [.int .u8 y.pr, .int .u32 y.s, .int .u32 y.d, .int .u16 y.sp, .int .u16 y.dp] _ (range_ext hYk) Tryz.underlying29 rfl keySize ?_; simp only [Act.put, List.setIfInBounds_toArray, List.set_cons_succ, List.set_cons_zero])
        | ((with_reducible refine held ?_); refine HQ_load_mid (by kernel_rfl) 60 _ rfl b2 (o2 + j * 11) rfl y.cells _ (range_ext hY) Tryz.underlying60 rfl rlnSize ?_; simp only [Act.put, List.setIfInBounds_toArray, List.set_cons_succ, List.set_cons_zero])
        | ((with_reducible refine held ?_); refine HQ_build (by kernel_rfl) 60 _ rfl #[] (by kernel_rfl) _ (fun w => build_rzero w) ?_; simp only [Act.put, List.setIfInBounds_toArray, List.set_cons_succ, List.set_cons_zero])
        | go_big_quiet_step (first | (go_at_call 60; with_reducible exact (hkc _).ext) | (go_at_call 19; with_reducible exact (hrt _).ext)))
      refine wpQuiet_nil ?_
      rintro _ ⟨z5, rfl⟩
      go_wp2_with fail
      go_meet
      exact ⟨rfl, inferInstance⟩
    · skip
      cases newr
      · skip
        have hval : apOk (a.drop j) c = false := hap
        obtain rfl : OK = false := by rw [← hOK]; exact hval
        clear hval hOK
        refine wp_region_ext (by kernel_rfl) (by kernel_rfl) ?_
        (try dsimp only [List.append])
        repeat (first
          | go_big_quiet_skip
          | ((with_reducible refine held ?_); refine HQ_load_mid (by kernel_rfl) 89 _ rfl D (0) rfl c.cells _ (range_ext hZr) Tryz.underlying89 rfl rchSize ?_; simp only [Act.put, List.setIfInBounds_toArray, List.set_cons_succ, List.set_cons_zero])
          | ((with_reducible refine held ?_); refine HQ_load_mid (by kernel_rfl) 60 _ rfl D (1) rfl c.old.cells _ (range_ext hOld) Tryz.underlying60 rfl rlnSize ?_; simp only [Act.put, List.setIfInBounds_toArray, List.set_cons_succ, List.set_cons_zero])
          | ((with_reducible refine held ?_); refine HQ_load_mid (by kernel_rfl) 60 _ rfl D (12) rfl c.new.cells _ (range_ext hNew) Tryz.underlying60 rfl rlnSize ?_; simp only [Act.put, List.setIfInBounds_toArray, List.set_cons_succ, List.set_cons_zero])
          | ((with_reducible refine held ?_); refine HQ_load_mid (by kernel_rfl) 29 _ rfl D (1) rfl [.int .u8 c.old.pr, .int .u32 c.old.s, .int .u32 c.old.d, .int .u16 c.old.sp, .int .u16 c.old.dp] _ (range_ext hOldK) Tryz.underlying29 rfl keySize ?_; simp only [Act.put, List.setIfInBounds_toArray, List.set_cons_succ, List.set_cons_zero])
          | ((with_reducible refine held ?_); refine HQ_load_mid (by kernel_rfl) 29 _ rfl D (12) rfl [.int .u8 c.new.pr, .int .u32 c.new.s, .int .u32 c.new.d, .int .u16 c.new.sp, .int .u16 c.new.dp] _ (range_ext hNewK) Tryz.underlying29 rfl keySize ?_; simp only [Act.put, List.setIfInBounds_toArray, List.set_cons_succ, List.set_cons_zero])
          | ((with_reducible refine held ?_); refine HQ_load_mid (by kernel_rfl) 29 _ rfl b2 (o2 + j * 11) rfl [.int .u8 y.pr, .int .u32 y.s, .int .u32 y.d, .int .u16 y.sp, .int .u16 y.dp] _ (range_ext hYk) Tryz.underlying29 rfl keySize ?_; simp only [Act.put, List.setIfInBounds_toArray, List.set_cons_succ, List.set_cons_zero])
          | ((with_reducible refine held ?_); refine HQ_load_mid (by kernel_rfl) 60 _ rfl b2 (o2 + j * 11) rfl y.cells _ (range_ext hY) Tryz.underlying60 rfl rlnSize ?_; simp only [Act.put, List.setIfInBounds_toArray, List.set_cons_succ, List.set_cons_zero])
          | ((with_reducible refine held ?_); refine HQ_build (by kernel_rfl) 60 _ rfl #[] (by kernel_rfl) _ (fun w => build_rzero w) ?_; simp only [Act.put, List.setIfInBounds_toArray, List.set_cons_succ, List.set_cons_zero])
          | go_big_quiet_step (first | (go_at_call 60; with_reducible exact (hkc _).ext) | (go_at_call 19; with_reducible exact (hrt _).ext)))
        refine wpQuiet_nil ?_
        rintro _ ⟨z5, rfl⟩
        go_wp2_with fail
        go_meet
        exact ⟨rfl, inferInstance⟩
      · skip
        have hval : apOk (a.drop j) c = true := hap
        obtain rfl : OK = true := by rw [← hOK]; exact hval
        clear hval hOK
        refine wp_region_ext (by kernel_rfl) (by kernel_rfl) ?_
        (try dsimp only [List.append])
        repeat (first
          | go_big_quiet_skip
          | ((with_reducible refine held ?_); refine HQ_load_mid (by kernel_rfl) 89 _ rfl D (0) rfl c.cells _ (range_ext hZr) Tryz.underlying89 rfl rchSize ?_; simp only [Act.put, List.setIfInBounds_toArray, List.set_cons_succ, List.set_cons_zero])
          | ((with_reducible refine held ?_); refine HQ_load_mid (by kernel_rfl) 60 _ rfl D (1) rfl c.old.cells _ (range_ext hOld) Tryz.underlying60 rfl rlnSize ?_; simp only [Act.put, List.setIfInBounds_toArray, List.set_cons_succ, List.set_cons_zero])
          | ((with_reducible refine held ?_); refine HQ_load_mid (by kernel_rfl) 60 _ rfl D (12) rfl c.new.cells _ (range_ext hNew) Tryz.underlying60 rfl rlnSize ?_; simp only [Act.put, List.setIfInBounds_toArray, List.set_cons_succ, List.set_cons_zero])
          | ((with_reducible refine held ?_); refine HQ_load_mid (by kernel_rfl) 29 _ rfl D (1) rfl [.int .u8 c.old.pr, .int .u32 c.old.s, .int .u32 c.old.d, .int .u16 c.old.sp, .int .u16 c.old.dp] _ (range_ext hOldK) Tryz.underlying29 rfl keySize ?_; simp only [Act.put, List.setIfInBounds_toArray, List.set_cons_succ, List.set_cons_zero])
          | ((with_reducible refine held ?_); refine HQ_load_mid (by kernel_rfl) 29 _ rfl D (12) rfl [.int .u8 c.new.pr, .int .u32 c.new.s, .int .u32 c.new.d, .int .u16 c.new.sp, .int .u16 c.new.dp] _ (range_ext hNewK) Tryz.underlying29 rfl keySize ?_; simp only [Act.put, List.setIfInBounds_toArray, List.set_cons_succ, List.set_cons_zero])
          | ((with_reducible refine held ?_); refine HQ_load_mid (by kernel_rfl) 29 _ rfl b2 (o2 + j * 11) rfl [.int .u8 y.pr, .int .u32 y.s, .int .u32 y.d, .int .u16 y.sp, .int .u16 y.dp] _ (range_ext hYk) Tryz.underlying29 rfl keySize ?_; simp only [Act.put, List.setIfInBounds_toArray, List.set_cons_succ, List.set_cons_zero])
          | ((with_reducible refine held ?_); refine HQ_load_mid (by kernel_rfl) 60 _ rfl b2 (o2 + j * 11) rfl y.cells _ (range_ext hY) Tryz.underlying60 rfl rlnSize ?_; simp only [Act.put, List.setIfInBounds_toArray, List.set_cons_succ, List.set_cons_zero])
          | ((with_reducible refine held ?_); refine HQ_build (by kernel_rfl) 60 _ rfl #[] (by kernel_rfl) _ (fun w => build_rzero w) ?_; simp only [Act.put, List.setIfInBounds_toArray, List.set_cons_succ, List.set_cons_zero])
          | go_big_quiet_step (first | (go_at_call 60; with_reducible exact (hkc _).ext) | (go_at_call 19; with_reducible exact (hrt _).ext)))
        refine wpQuiet_nil ?_
        rintro _ ⟨z5, rfl⟩
        go_wp2_with fail
        go_meet
        exact ⟨rfl, inferInstance⟩
  · skip
    have hval : apOk (a.drop j) c = false := hap.trans (by cases oldz <;> cases newr <;> rfl)
    obtain rfl : OK = false := by rw [← hOK]; exact hval
    clear hval hOK
    refine wp_region_ext (by kernel_rfl) (by kernel_rfl) ?_
    (try dsimp only [List.append])
    repeat (first
      | go_big_quiet_skip
      | ((with_reducible refine held ?_); refine HQ_load_mid (by kernel_rfl) 89 _ rfl D (0) rfl c.cells _ (range_ext hZr) Tryz.underlying89 rfl rchSize ?_; simp only [Act.put, List.setIfInBounds_toArray, List.set_cons_succ, List.set_cons_zero])
      | ((with_reducible refine held ?_); refine HQ_load_mid (by kernel_rfl) 60 _ rfl D (1) rfl c.old.cells _ (range_ext hOld) Tryz.underlying60 rfl rlnSize ?_; simp only [Act.put, List.setIfInBounds_toArray, List.set_cons_succ, List.set_cons_zero])
      | ((with_reducible refine held ?_); refine HQ_load_mid (by kernel_rfl) 60 _ rfl D (12) rfl c.new.cells _ (range_ext hNew) Tryz.underlying60 rfl rlnSize ?_; simp only [Act.put, List.setIfInBounds_toArray, List.set_cons_succ, List.set_cons_zero])
      | ((with_reducible refine held ?_); refine HQ_load_mid (by kernel_rfl) 29 _ rfl D (1) rfl [.int .u8 c.old.pr, .int .u32 c.old.s, .int .u32 c.old.d, .int .u16 c.old.sp, .int .u16 c.old.dp] _ (range_ext hOldK) Tryz.underlying29 rfl keySize ?_; simp only [Act.put, List.setIfInBounds_toArray, List.set_cons_succ, List.set_cons_zero])
      | ((with_reducible refine held ?_); refine HQ_load_mid (by kernel_rfl) 29 _ rfl D (12) rfl [.int .u8 c.new.pr, .int .u32 c.new.s, .int .u32 c.new.d, .int .u16 c.new.sp, .int .u16 c.new.dp] _ (range_ext hNewK) Tryz.underlying29 rfl keySize ?_; simp only [Act.put, List.setIfInBounds_toArray, List.set_cons_succ, List.set_cons_zero])
      | ((with_reducible refine held ?_); refine HQ_load_mid (by kernel_rfl) 29 _ rfl b2 (o2 + j * 11) rfl [.int .u8 y.pr, .int .u32 y.s, .int .u32 y.d, .int .u16 y.sp, .int .u16 y.dp] _ (range_ext hYk) Tryz.underlying29 rfl keySize ?_; simp only [Act.put, List.setIfInBounds_toArray, List.set_cons_succ, List.set_cons_zero])
      | ((with_reducible refine held ?_); refine HQ_load_mid (by kernel_rfl) 60 _ rfl b2 (o2 + j * 11) rfl y.cells _ (range_ext hY) Tryz.underlying60 rfl rlnSize ?_; simp only [Act.put, List.setIfInBounds_toArray, List.set_cons_succ, List.set_cons_zero])
      | ((with_reducible refine held ?_); refine HQ_build (by kernel_rfl) 60 _ rfl #[] (by kernel_rfl) _ (fun w => build_rzero w) ?_; simp only [Act.put, List.setIfInBounds_toArray, List.set_cons_succ, List.set_cons_zero])
      | go_big_quiet_step (first | (go_at_call 60; with_reducible exact (hkc _).ext) | (go_at_call 19; with_reducible exact (hrt _).ext)))
    refine wpQuiet_nil ?_
    rintro _ ⟨z5, rfl⟩
    go_wp2_with fail
    go_meet
    exact ⟨rfl, inferInstance⟩
end Go.Proofs.YtlbbepgfjigjpaaGreatDoor
