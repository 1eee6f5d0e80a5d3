/- Package span: what a choice among the numbers of two sets returns. -/
import Derived.Test.YtgfkcbflnkpogaaGreatDoorSp5
import Derived.Test.YtgfkcbflnkpogaaGreatDoorInRound
set_option linter.unusedSimpArgs false
set_option linter.unusedVariables false
namespace Go.Ab
open Go.RowKit
theorem rF_len : ∀ {o : List Sp} {lo m : Int}, rF lo o = true → (∀ x ∈ o, x.2 < m) → lo ≤ m → (o.length : Int) ≤ m - lo
  | [], lo, m, _, _, h => by simp; omega
  | [x], lo, m, hr, hm, h => by
    obtain ⟨h1, h2, _⟩ := rF_cons.1 hr
    have := hm x (by simp)
    simp; omega
  | x :: y :: o, lo, m, hr, hm, h => by
    obtain ⟨h1, h2, h3⟩ := rF_cons.1 hr
    have hy := hm y (by simp)
    obtain ⟨g1, g2, _⟩ := rF_cons.1 h3
    have := rF_len h3 (fun z hz => hm z (by simp at hz ⊢; exact .inr hz)) (by omega)
    simp only [List.length_cons] at this ⊢
    omega
theorem Upto.len {t : Bool → Bool → Bool} {a b o : List Sp} {m : Int} (h : Upto t a b o m) : o.length ≤ 4294967296 := by
  have := rF_len h.r h.hi h.m0
  have := h.m1
  omega
theorem Upto.bd {t : Bool → Bool → Bool} {a b o : List Sp} {m : Int} (h : Upto t a b o m) : ∀ x ∈ o, SpB x := rF_bd h.r (fun n k => ⟨rF_ge h.r k, by
  obtain ⟨x, hx, _, k2⟩ := hasS_iff.1 k
  have := h.hi x hx
  have := h.m1
  omega⟩)
/-- As wp_rangeFunc_upK, but what the assignment leaves need only abide the loop's own record. -/
theorem wp_rangeFunc_upB {α : Type} {P : Program} {g : Operand} {ps : Array Tmp} {assign body : Code} {Q : Exit → Act → World → Prop} {a : Act} {w : World} {gf : Nat} {lb : Array Value}
    (hg : a.eval g = .func (.func gf) #[] lb) (eg : ∀ args w, (callFunc gf args).run P w = .ok (.enter gf args) w)
    {encs : α → Array Value} {S Pre : List α → Prop} {own kp : Nat → Nat → Prop} {K0 : World → Prop} (hseq : SeqUpK P gf lb encs S Pre own kp K0) (hps : ∀ x, (encs x).size = ps.size)
    (hK0 : ∀ W1, Up w W1 → W1.heap.size = w.heap.size + 2 → K0 W1) (hown : ∀ b, own (w.heap.size + 2) b → b ≠ w.heap.size ∧ b ≠ w.heap.size + 1) (hkp : ∀ b, kp (w.heap.size + 2) b → b ≠ w.heap.size ∧ b ≠ w.heap.size + 1)
    (I : List α → World → Prop) (Ix : Code → List α → World → Prop) (A : List α → α → Act → World → Prop)
    (hI : ∀ s X Y, I s X → Turn (book own w.heap.size) X Y → I s Y) (hIx : ∀ c s X Y, Ix c s X → Turn (book own w.heap.size) X Y → Ix c s Y)
    (hA : ∀ s x a X o, A s x a X → A s x a (X.putObj (w.heap.size + 1) o)) (h0 : ∀ W1, Up w W1 → W1.heap.size = w.heap.size + 2 → I [] W1)
    (hassign : ∀ (l : Nat) (pre : List α) (x : α) (W : World), I pre W → Pre (pre ++ [x]) →
      assign.wpIn (Fence.wide.inRound l) 0 P (Exit.then (fun a1 W1 => Kept (book kp w.heap.size) W W1 ∧ A pre x a1 W1) (fun _ _ _ => False)) { tmps := (ps.zip (encs x)).foldl (fun t (p, v) => t.setIfInBounds p v) a.tmps, defers := [] } W)
    (hbody : ∀ (l : Nat) (pre : List α) (x : α) (a1 : Act) (W : World), A pre x a1 W → Pre (pre ++ [x]) → body.wpIn (Fence.wide.inRound l) 0 P (roundEnd (book kp w.heap.size) I Ix (pre ++ [x]) W) a1 W)
    (hdone : ∀ (xs : List α) (W : World), S xs → I xs W → W.heap[w.heap.size]? = some (.deferred (some [])) → Q .normal { a with defers := { target := .collected w.heap.size, args := #[] } :: a.defers } W)
    (hstop : ∀ (c : Code) (pre : List α) (W : World), Ix c pre W → W.heap[w.heap.size]? = some (.deferred (some [])) → c.wp P Q { a with defers := { target := .collected w.heap.size, args := #[] } :: a.defers } W) :
    (Code.rangeFunc g ps assign body).wp P Q a w := by
  refine (wpIn_wide (n := 0)).1 (wpIn_rangeFunc ?_)
  intro fn hfn
  obtain ⟨lp, hlp⟩ : ∃ lp : LoopState → Option Code → Loop, lp = fun st pe => { state := st, pending := pe, fn, tmps := a.tmps, params := ps, assign, body, defers := w.heap.size } := ⟨_, rfl⟩
  obtain ⟨W1, hW1⟩ : ∃ W1, (w.alloc (.deferred (some []))).alloc (.loop (lp .ready none)) = W1 := ⟨_, rfl⟩
  have hsz : W1.heap.size = w.heap.size + 2 := by rw [← hW1]; simp
  have hup : Up w W1 := by rw [← hW1]; exact ((Up.refl w).alloc _).alloc _
  have hL1 : W1.heap[w.heap.size + 1]? = some (.loop (lp .ready none)) := by
    rw [← hW1]
    have := World.alloc_heap_new (w.alloc (.deferred (some []))) (.loop (lp .ready none))
    rwa [World.size_alloc] at this
  have hD1 : W1.heap[w.heap.size]? = some (.deferred (some [])) := by
    rw [← hW1]; exact (Below.heap_alloc _ _ _ (by simp)).trans (World.alloc_heap_new w _)
  have bl : book own w.heap.size (w.heap.size + 1) := .inr (.inr rfl)
  have blk : book kp w.heap.size (w.heap.size + 1) := .inr (.inr rfl)
  have bdk : book kp w.heap.size w.heap.size := .inr (.inl rfl)
  have nl : ¬ own W1.heap.size (w.heap.size + 1) := by rw [hsz]; exact fun h => (hown _ h).2 rfl
  have nd : ¬ own W1.heap.size w.heap.size := by rw [hsz]; exact fun h => (hown _ h).1 rfl
  have nlk : ¬ kp W1.heap.size (w.heap.size + 1) := by rw [hsz]; exact fun h => (hkp _ h).2 rfl
  have obk : ∀ b, kp W1.heap.size b → book kp w.heap.size b := by rw [hsz]; exact fun b h => .inl h
  have ob : ∀ b, own W1.heap.size b → book own w.heap.size b := by rw [hsz]; exact fun b h => .inl h
  refine ⟨w.heap.size + 1, [{ target := .collected w.heap.size, args := #[] }], W1, { target := .fn (.func gf) lb, args := #[.func (.yield (w.heap.size + 1)) #[] #[]] }, W1, gf,
    #[.func (.yield (w.heap.size + 1)) #[] #[]] ++ lb, W1, ?_, ?_, fun _ _ => trivial, ?_, (fun h => by cases h), ?_⟩
  · rw [← hW1, hlp]; exact run_enterLoop_outer _ _ _ _ _
  · simp only [resolve, hg]
    simp [go_sem]
  · simp [invoke, go_sem, eg]
  refine callsIn_wide.2 ((hseq (w.heap.size + 1)
    (fun pre W => I pre W ∧ W.heap[w.heap.size + 1]? = some (.loop (lp .ready none)) ∧ W.heap[w.heap.size]? = some (.deferred (some [])))
    (fun pre W => ∃ c, Ix c pre W ∧ W.heap[w.heap.size + 1]? = some (.loop (lp .done (some c))) ∧ W.heap[w.heap.size]? = some (.deferred (some [])))
    W1 (hK0 W1 hup hsz) (fun s X Y ⟨h1, h2, h3⟩ ht => ⟨hI s X Y h1 (ht.mono ob), ht.same h2 nl, ht.same h3 nd⟩)
    (fun s X Y ⟨c, h1, h2, h3⟩ ht => ⟨c, hIx c s X Y h1 (ht.mono ob), ht.same h2 nl, ht.same h3 nd⟩) ?_ ⟨h0 W1 hup hsz, hL1, hD1⟩).mono ?_)
  · rintro pre x W ⟨hi, hl, hd⟩ hpre
    have hy := run_yield (P := P) (args := encs x) hl (by rw [hlp]; exact hps x)
    rw [hlp] at hy
    refine ⟨fn, _, assign, body, hy, roundIn_of_wpIn hfn (wpIn_mono (hassign _ pre x W hi hpre) ?_)⟩
    rintro e a1 Wa hp
    cases e with
    | normal =>
      obtain ⟨hk, ha⟩ := hp
      have hla := hk.at hl blk
      have hda := hk.at hd bdk
      refine ⟨_, run_beginRound hla (by rw [hlp]), wpIn_mono (hbody _ pre x a1 _ (hA _ _ _ _ _ ha) hpre) ?_⟩
      have hlt : w.heap.size + 1 < Wa.heap.size := (Array.getElem?_eq_some_iff.1 hla).1
      have hl2 : (Wa.putObj (w.heap.size + 1) (.loop { lp .ready none with state := .busy })).heap[w.heap.size + 1]? = some (.loop { lp .ready none with state := .busy }) := World.putObj_heap_same hlt
      have hd2 : (Wa.putObj (w.heap.size + 1) (.loop { lp .ready none with state := .busy })).heap[w.heap.size]? = some (.deferred (some [])) := (World.putObj_heap_other (by omega)).trans hda
      have hk2 : Kept (kp W1.heap.size) W (Wa.putObj (w.heap.size + 1) (.loop { lp .ready none with state := .busy })) := (hk.mono obk).trans (kept_putObj _ _ _ nlk)
      have fin : ∀ (jump : Option Code) (W3 : World), Kept (book kp w.heap.size) (Wa.putObj (w.heap.size + 1) (.loop { lp .ready none with state := .busy })) W3 →
          (Instr.endRound (w.heap.size + 1) jump).run P W3 = .ok (.bool jump.isNone) (W3.putObj (w.heap.size + 1) (.loop (lp (if jump.isNone then .ready else .done) jump))) ∧
          (W3.putObj (w.heap.size + 1) (.loop (lp (if jump.isNone then .ready else .done) jump))).heap[w.heap.size + 1]? = some (.loop (lp (if jump.isNone then .ready else .done) jump)) ∧
          (W3.putObj (w.heap.size + 1) (.loop (lp (if jump.isNone then .ready else .done) jump))).heap[w.heap.size]? = some (.deferred (some [])) ∧
          Kept (kp W1.heap.size) W (W3.putObj (w.heap.size + 1) (.loop (lp (if jump.isNone then .ready else .done) jump))) := fun jump W3 hk3 => by
        have hl3 := hk3.at hl2 blk
        have hr := run_endRound (P := P) jump hl3
        rw [hlp] at hr ⊢
        exact ⟨hr, World.putObj_heap_same (Array.getElem?_eq_some_iff.1 hl3).1, (World.putObj_heap_other (by omega)).trans (hk3.at hd2 bdk), (by rw [hlp] at hk2 hk3; exact (hk2.trans (hk3.mono obk)).trans (kept_putObj _ _ _ nlk))⟩
      rintro e2 a3 W3 hp3
      cases e2 with
      | normal =>
        obtain ⟨hk3, hi3⟩ := hp3
        obtain ⟨hr, h1, h2, h3⟩ := fin none W3 hk3
        exact ⟨_, _, hr, .inl ⟨rfl, ⟨hI _ _ _ hi3 (turn_putObj _ _ _ bl), h1, h2⟩, h3⟩⟩
      | ret =>
        obtain ⟨hk3, hi3⟩ := hp3
        obtain ⟨hr, h1, h2, _⟩ := fin (some .ret) W3 hk3
        exact ⟨_, _, hr, .inr ⟨rfl, .ret, hIx _ _ _ _ hi3 (turn_putObj _ _ _ bl), h1, h2⟩⟩
      | exit id =>
        obtain ⟨hk3, hi3⟩ := hp3
        obtain ⟨hr, h1, h2, _⟩ := fin (some (.exit id)) W3 hk3
        exact ⟨_, _, hr, .inr ⟨rfl, .exit id, hIx _ _ _ _ hi3 (turn_putObj _ _ _ bl), h1, h2⟩⟩
      | goto t =>
        obtain ⟨hk3, hi3⟩ := hp3
        obtain ⟨hr, h1, h2, _⟩ := fin (some (.goto t)) W3 hk3
        exact ⟨_, _, hr, .inr ⟨rfl, .goto t, hIx _ _ _ _ hi3 (turn_putObj _ _ _ bl), h1, h2⟩⟩
      | panic ch => exact hp3.elim
      | outgrown => exact hp3.elim
    | ret => exact hp.elim
    | exit id => exact hp.elim
    | goto t => exact hp.elim
    | panic ch => exact hp.elim
    | outgrown => exact hp.elim
  · rintro e W2 ⟨⟨v, rfl⟩, (⟨xs, hS, hi, hl, hd⟩ | ⟨pre, c, hi, hl, hd⟩)⟩
    · exact ⟨none, _, by have := run_endLoop (P := P) hl (by rw [hlp]; simp); rw [hlp] at this; exact this, hdone xs _ hS (hI _ _ _ hi (turn_putObj _ _ _ bl)) ((World.putObj_heap_other (by omega)).trans hd)⟩
    · exact ⟨some c, _, by have := run_endLoop (P := P) hl (by rw [hlp]; simp); rw [hlp] at this; exact this, wpIn_wide.2 (hstop c pre _ (hIx _ _ _ _ hi (turn_putObj _ _ _ bl)) ((World.putObj_heap_other (by omega)).trans hd))⟩
end Go.Ab
namespace Go.Proofs.YtgfkcbflnkpogaaGreatDoor
open Go.RowKit Go.Ab
attribute [local go_sem] Oper.semAt_some
theorem run_store_func {P : Program} {w : World} {a : Addr} {m : Mode} (f : Fn) (b c : Array Value) : (store a (.func f b c) m).run P w = stored P w a (.func f b c) m := run_store P w a _ m rfl
attribute [local go_sem] run_store_func
attribute [local go_sem high] wrapI64 wrapK64
set_option maxHeartbeats 8000000 in
theorem pieces_any (w : World) (pa pb : Option Addr) (La capa Lb capb : Nat) :
    Calls Tryz.prog 82 #[.slice pa La capa, .slice pb Lb capb] w fun e w' => e = .returned (.func (.func 104) #[] #[.pointer (some ⟨w.heap.size, 0, none⟩), .pointer (some ⟨w.heap.size + 1, 0, none⟩)]) ∧ w' = (w.alloc (.cells #[.slice pa La capa] 25)).alloc (.cells #[.slice pb Lb capb] 25) := by
  go_enter Tryz.func82, Tryz.ntmps82
  go_wp2
  go_ret
  exact ⟨rfl, rfl⟩
set_option maxHeartbeats 16000000 in
set_option maxRecDepth 100000 in
theorem choose_no (F : Nat) (a b : List Sp) (va vb : Value) (w : World) (ra : SpRow w va a) (rb : SpRow w vb b) (ba : ∀ x ∈ a, SpB x) (bb : ∀ x ∈ b, SpB x) (la : a.length ≤ 1000000000) (lb : b.length ≤ 1000000000) (e : Int) (he : wrongLs [a, b] = e) (hz : (e != 0) = true) :
    Gives Tryz.prog 35 #[va, vb, .func (.func F) #[] #[]] w (.tuple #[.slice none 0 0, .int .i64 e]) := by
  obtain ⟨pa, capa, rfl⟩ := sp_len ra
  obtain ⟨pb, capb, rfl⟩ := sp_len rb
  have hw := fun (W : World) (u : Up w W) => (spwrong_any [(.slice pa a.length capa, a), (.slice pb b.length capb, b)] (.slice (some ⟨W.heap.size, 0, none⟩) 2 2) (W.alloc (.cells #[.slice pa a.length capa, .slice pb b.length capb] 25)) (spRow_two W _ _ a b _) (sp_two ⟨ra.up (u.alloc _), ba, la⟩ ⟨rb.up (u.alloc _), bb, lb⟩) (by simp)).cast (by rw [List.map_cons, List.map_cons, List.map_nil, he])
  have hw1 := hw _ ((Up.refl w).alloc (.cells #[.func (.func F) #[] #[]] 75))
  clear ra rb ba bb la lb he hw
  rw [World.size_alloc] at hw1
  unfold Gives
  go_enter Tryz.func35, Tryz.ntmps35
  go_wp2_with (go_at_call 40; refine hw1.mono ?_; clear hw1; rintro e w' ⟨rfl, z, rfl⟩)
  go_ret2
  exact ⟨rfl, mkI⟩
set_option maxHeartbeats 16000000 in
set_option maxRecDepth 100000 in
theorem choose_yes (F : Nat) (hE : ∀ args w, (callFunc F args).run Tryz.prog w = .ok (.enter F args) w) (t : Bool → Bool → Bool) (hT : ∀ p q W, Gives Tryz.prog F #[.bool p, .bool q] W (.bool (t p q))) (a b : List Sp) (va vb : Value) (w : World) (ra : SpRow w va a) (rb : SpRow w vb b) (ha : rightS a = true) (hb : rightS b = true) (ba : ∀ x ∈ a, SpB x) (bb : ∀ x ∈ b, SpB x) (la : a.length ≤ 4096) (lb : b.length ≤ 4096) :
    Calls Tryz.prog 35 #[va, vb, .func (.func F) #[] #[]] w fun e w' => ∃ u o, e = .returned (.tuple #[u, .int .i64 0]) ∧ Chosen t a b o ∧ o.length ≤ 4294967296 ∧ w'.ownsRow w.heap.size 39 2 u o.length (o.flatMap spCells) ∧ ∃ x : Ext w, w' = x.w := by
  obtain ⟨pa, capa, rfl⟩ := sp_len ra
  obtain ⟨pb, capb, rfl⟩ := sp_len rb
  have he : wrongLs [a, b] = 0 := by unfold wrongLs; rw [if_neg (by simp; omega), if_pos (by simp [ha, hb])]
  have hw := fun (W : World) (u : Up w W) => (spwrong_any [(.slice pa a.length capa, a), (.slice pb b.length capb, b)] (.slice (some ⟨W.heap.size, 0, none⟩) 2 2) (W.alloc (.cells #[.slice pa a.length capa, .slice pb b.length capb] 25)) (spRow_two W _ _ a b _) (sp_two ⟨ra.up (u.alloc _), ba, by simp only; omega⟩ ⟨rb.up (u.alloc _), bb, by simp only; omega⟩) (by simp)).cast (by rw [List.map_cons, List.map_cons, List.map_nil, he])
  have hw1 := hw _ ((Up.refl w).alloc (.cells #[.func (.func F) #[] #[]] 75))
  have HRA := Lib.hid (SpRowN.of_row ra)
  have HRB := Lib.hid (SpRowN.of_row rb)
  have Ha := Lib.hid ha; have Hb := Lib.hid hb; have Ba := Lib.hid ba; have Bb := Lib.hid bb
  have HT := Lib.hid hT
  clear ra rb ha hb ba bb he hw hT
  rw [World.size_alloc] at hw1
  refine (callsIn_wide (n := 0)).1 (callsIn_of_wp_marks Tryz.func35 rfl trivial ?_ rfl)
  refine (wpIn_wide (n := 0)).2 ?_
  simp only [Tryz.ntmps35, List.size_toArray, List.length_cons, List.length_nil, Nat.reduceAdd, Nat.reduceSub, Array.replicate_succ, Array.replicate_zero, List.push_toArray, List.append_toArray, List.nil_append, List.cons_append]
  go_wp2_with (first
    | (go_at_call 40; refine hw1.mono ?_; clear hw1; rintro e w' ⟨rfl, z, rfl⟩)
    | (go_at_call 82; refine (pieces_any _ pa pb _ capa _ capb).mono ?_; rintro e w' ⟨rfl, rfl⟩))
  obtain ⟨s, hs⟩ : ∃ s, z.w.heap.size = s := ⟨_, rfl⟩
  have hsz : w.heap.size + 2 ≤ s := by
    have h1 : Up ((w.alloc (.cells #[.func (.func F) #[] #[]] 75)).alloc (.cells #[.slice pa a.length capa, .slice pb b.length capb] 25)) z.w := z.up
    have := h1.size
    simp at this
    omega
  refine wp_letterS (fun Z => Z.heap.size = s + 4 ∧ Up w Z ∧ Z.heap[w.heap.size]? = some (.cells #[.func (.func F) #[] #[]] 75 (0, 0)) ∧ Z.heap[s]? = some (.cells #[.slice none 0 0] 91 (0, 0)) ∧ Z.heap[s + 1]? = some (.cells #[.func (.func 55) #[.pointer (some ⟨s, 0, none⟩)] #[]] 92 (0, 0)) ∧ Z.cell? ⟨s + 2, 0, none⟩ = some (.slice pa a.length capa) ∧ Z.cell? ⟨s + 3, 0, none⟩ = some (.slice pb b.length capb)) ?hst ?_
  case hst =>
    refine ⟨by simp [hs], (upI : Up w ((((z.w.alloc (.cells #[.slice none 0 0] 91)).alloc (.cells #[.func (.func 55) #[.pointer (some ⟨z.w.heap.size, 0, none⟩)] #[]] 92)).alloc (.cells #[.slice pa a.length capa] 25)).alloc (.cells #[.slice pb b.length capb] 25))), ?_, ?_, ?_, ?_, ?_⟩
    · have u : Up ((w.alloc (.cells #[.func (.func F) #[] #[]] 75)).alloc (.cells #[.slice pa a.length capa, .slice pb b.length capb] 25)) _ := ((((z.up.alloc (.cells #[.slice none 0 0] 91)).alloc (.cells #[.func (.func 55) #[.pointer (some ⟨z.w.heap.size, 0, none⟩)] #[]] 92)).alloc (.cells #[.slice pa a.length capa] 25)).alloc (.cells #[.slice pb b.length capb] 25))
      exact (u.block w.heap.size (by simp; omega)).trans ((Below.heap_alloc _ _ _ (by simp)).trans (alloc_at w _))
    · subst hs
      rw [Below.heap_alloc _ _ _ (by simp <;> omega), Below.heap_alloc _ _ _ (by simp <;> omega), Below.heap_alloc _ _ _ (by simp)]
      exact alloc_at z.w _
    · subst hs
      rw [Below.heap_alloc _ _ _ (by simp <;> omega), Below.heap_alloc _ _ _ (by simp)]
      have := alloc_at (z.w.alloc (.cells #[.slice none 0 0] 91)) (.cells #[.func (.func 55) #[.pointer (some ⟨z.w.heap.size, 0, none⟩)] #[]] 92)
      rwa [World.size_alloc] at this
    · subst hs; simp [go_sem]
    · subst hs; simp [go_sem]
  rw [hs]
  rintro W0 ⟨hz0, hu0, o0, o1, o2, c2, c3⟩
  clear hs z
  have hbk : ∀ k, book (fun n k => k = n + 1) W0.heap.size k → k = s + 4 ∨ k = s + 5 ∨ k = s + 7 := by
    intro k hk
    rw [hz0] at hk
    rcases hk with h | rfl | rfl <;> omega
  have hkp : ∀ k, book (fun n k => k < w.heap.size ∨ k = n ∨ k = n + 1) W0.heap.size k → k < w.heap.size ∨ s + 4 ≤ k ∧ k < s + 8 := by
    intro k hk
    rw [hz0] at hk
    rcases hk with (h | h | h) | rfl | rfl <;> omega
  refine wp_rangeFunc_upB (α := Pc) (gf := 104) (lb := #[.pointer (some ⟨s + 1 + 1, 0, none⟩), .pointer (some ⟨s + 1 + 1 + 1, 0, none⟩)]) rfl (enters Tryz.func104 (by kernel_rfl) rfl)
    (pieces_seq w.heap.size (s + 1 + 1) (s + 1 + 1 + 1) a b (.slice pa a.length capa) (.slice pb b.length capb) Ha.out Hb.out Ba.out Bb.out (by omega) (by omega)) (fun _ => rfl) ?hK0 ?hown ?hkp'
    (fun pre W => ((Up w W ∧ s + 6 ≤ W.heap.size) ∧ W.heap[w.heap.size]? = some (.cells #[.func (.func F) #[] #[]] 75 (0, 0)) ∧ W.heap[s + 1]? = some (.cells #[.func (.func 55) #[.pointer (some ⟨s, 0, none⟩)] #[]] 92 (0, 0))) ∧ ∃ v, W.heap[s]? = some (.cells #[v] 91 (0, 0)) ∧ W.ownsRow (s + 8) 39 2 v (chosenL t pre).length ((chosenL t pre).flatMap spCells))
    (fun _ _ _ => False)
    (fun pre x a1 W => (((Up w W ∧ s + 8 ≤ W.heap.size) ∧ W.heap[w.heap.size]? = some (.cells #[.func (.func F) #[] #[]] 75 (0, 0)) ∧ W.heap[s + 1]? = some (.cells #[.func (.func 55) #[.pointer (some ⟨s, 0, none⟩)] #[]] 92 (0, 0))) ∧ ∃ v, W.heap[s]? = some (.cells #[v] 91 (0, 0)) ∧ W.ownsRow (s + 8) 39 2 v (chosenL t pre).length ((chosenL t pre).flatMap spCells)) ∧
      ∃ P, s + 6 ≤ P ∧ W.heap[P]? = some (.cells #[.int .i64 x.f, .int .i64 x.t] 134 (0, 0)) ∧ W.heap[P + 1]? = some (.cells #[.bool x.p, .bool x.q] 135 (0, 0)) ∧
        a1 = { tmps := #[.slice pa a.length capa, .slice pb b.length capb, .func (.func F) #[] #[], undef, undef, .pointer (some ⟨w.heap.size, 0, none⟩), .slice none 0 0, .int .i64 0, .int .i64 0, .pointer (some ⟨s, 0, none⟩), .pointer (some ⟨s + 1, 0, none⟩), .pointer (some ⟨P, 0, none⟩), .pointer (some ⟨P + 1, 0, none⟩), .slice pa a.length capa, .slice pb b.length capb, .slice (some ⟨w.heap.size + 1, 0, none⟩) 2 2, .int .i64 0, .int .i64 0, .bool false, undef, .func (.func 55) #[.pointer (some ⟨s, 0, none⟩)] #[], .slice pa a.length capa, .slice pb b.length capb, .func (.func 104) #[] #[.pointer (some ⟨s + 1 + 1, 0, none⟩), .pointer (some ⟨s + 1 + 1 + 1, 0, none⟩)], .agg #[.int .i64 x.f, .int .i64 x.t], .agg #[.bool x.p, .bool x.q], undef, undef, undef, undef, undef, undef, undef, undef, undef, undef, undef, undef, undef, undef], defers := [] })
    ?hI ?hIx ?hA ?h0 ?assign ?body ?done ?stop
  case hK0 =>
    intro W1 hu hsz1
    exact ⟨hu.cell_some c2, hu.cell_some c3, HRA.out.kept (⟨(hu0.trans hu).size, fun k hk _ => (hu0.trans hu).block k hk⟩ : Kept (fun k => k < w.heap.size) w W1) (fun _ h => h), HRB.out.kept (⟨(hu0.trans hu).size, fun k hk _ => (hu0.trans hu).block k hk⟩ : Kept (fun k => k < w.heap.size) w W1) (fun _ h => h), by omega⟩
  case hown => intro k hk; rw [hz0] at hk ⊢; omega
  case hkp' => intro k hk; rw [hz0] at hk ⊢; omega
  case hI =>
    rintro pre X Y ⟨⟨⟨hu, hz⟩, h1, h2⟩, v, hv, hown⟩ ht
    exact ⟨⟨⟨ht.up hu (fun k hk => by have := hbk k hk; omega), Nat.le_trans hz ht.size⟩, ht.same h1 (fun hk => by have := hbk _ hk; omega), ht.same h2 (fun hk => by have := hbk _ hk; omega)⟩, v, ht.same hv (fun hk => by have := hbk _ hk; omega), owns_turn ht hown (fun k hk => by have := hbk k hk; omega)⟩
  case hIx => intro c pre X Y h _; exact h
  case hA =>
    rintro pre x a1 X o ⟨⟨⟨⟨hu, hz⟩, h1, h2⟩, v, hv, hown⟩, P, hP, hp1, hp2, rfl⟩
    have ht : Turn (fun k => k = s + 5) X (X.putObj (W0.heap.size + 1) o) := turn_putObj _ _ _ (by omega)
    exact ⟨⟨⟨⟨ht.up hu (fun k hk => by omega), Nat.le_trans hz ht.size⟩, ht.same h1 (fun hk => by omega), ht.same h2 (fun hk => by omega)⟩, v, ht.same hv (fun hk => by omega), owns_turn ht hown (fun k hk => by omega)⟩, P, hP, ht.same hp1 (fun hk => by omega), ht.same hp2 (fun hk => by omega), rfl⟩
  case h0 =>
    intro W1 hu hsz1
    exact ⟨⟨⟨hu0.trans hu, by omega⟩, (hu.block _ (by omega)).trans o0, (hu.block _ (by omega)).trans o2⟩, _, (hu.block s (by omega)).trans o1, World.ownsRow_nil _ _ _ _⟩
  case assign =>
    rintro l' pre x W ⟨⟨⟨hu, hz⟩, h1, h2⟩, v, hv, hown⟩ _
    have Hu := Lib.hid hu
    have H1 := Lib.hid h1; have H2 := Lib.hid h2; have Hv := Lib.hid hv; have Hown := Lib.hid hown
    have Hkp := Lib.hid hkp
    clear hv hown hbk hkp h1 h2 c2 c3 o0 o1 o2 hu0
    rw [show encPc x = #[.agg #[.int .i64 x.f, .int .i64 x.t], .agg #[.bool x.p, .bool x.q]] from rfl, foldl_two]
    show Code.wpIn (Fence.wide.inRound l') 0 Tryz.prog _ _ { tmps := #[.slice pa a.length capa, .slice pb b.length capb, .func (.func F) #[] #[], undef, undef, .pointer (some ⟨w.heap.size, 0, none⟩), .slice none 0 0, .int .i64 0, .int .i64 0, .pointer (some ⟨s, 0, none⟩), .pointer (some ⟨s + 1, 0, none⟩), undef, undef, .slice pa a.length capa, .slice pb b.length capb, .slice (some ⟨w.heap.size + 1, 0, none⟩) 2 2, .int .i64 0, .int .i64 0, .bool false, undef, .func (.func 55) #[.pointer (some ⟨s, 0, none⟩)] #[], .slice pa a.length capa, .slice pb b.length capb, .func (.func 104) #[] #[.pointer (some ⟨s + 1 + 1, 0, none⟩), .pointer (some ⟨s + 1 + 1 + 1, 0, none⟩)], .agg #[.int .i64 x.f, .int .i64 x.t], .agg #[.bool x.p, .bool x.q], undef, undef, undef, undef, undef, undef, undef, undef, undef, undef, undef, undef, undef, undef], defers := [] } W
    gi_wp2_with fail
    have u : Up W ((W.alloc (.cells #[.int .i64 x.f, .int .i64 x.t] 134)).alloc (.cells #[.bool x.p, .bool x.q] 135)) := ((Up.refl W).alloc _).alloc _
    refine ⟨(Kept.refl _ W).up u, ⟨⟨⟨Hu.out.trans u, by simp; omega⟩, (u.block _ (heap_lt H1.out)).trans H1.out, (u.block _ (heap_lt H2.out)).trans H2.out⟩, v, (u.block s (heap_lt Hv.out)).trans Hv.out, owns_up Hown.out u⟩, W.heap.size, hz, (Below.heap_alloc _ _ _ (by simp)).trans (alloc_at W _), ?_, rfl⟩
    have := alloc_at (W.alloc (.cells #[.int .i64 x.f, .int .i64 x.t] 134)) (.cells #[.bool x.p, .bool x.q] 135)
    rwa [World.size_alloc] at this
  case body =>
    rintro l' pre x a1 W ⟨⟨⟨⟨hu, hz⟩, h1, h2⟩, v, hv, hown⟩, P, hP, hp1, hp2, rfl⟩ ⟨mm, hT0⟩
    obtain ⟨k, hTk, hxf, hmm, hk1, hk2, hcon⟩ := hT0.uncons
    have hup := hTk.upto (t := t)
    have k0 := hup.m0
    have f0 : 0 ≤ x.f := by omega
    have f1 : x.f < 4294967296 := by omega
    have t0 : 0 ≤ x.t := by omega
    have cT := cell_of_one h1
    have cA := cell_of_one h2
    have p0 : W.cell? ⟨P, 0, none⟩ = some (.int .i64 x.f) := by simp [cell_of_cells hp1]
    have p1 : W.cell? ⟨P, 1, none⟩ = some (.int .i64 x.t) := by simp [cell_of_cells hp1]
    have q0 : W.cell? ⟨P + 1, 0, none⟩ = some (.bool x.p) := by simp [cell_of_cells hp2]
    have q1 : W.cell? ⟨P + 1, 1, none⟩ = some (.bool x.q) := by simp [cell_of_cells hp2]
    haveI : LtSize w.heap.size W := ⟨heap_lt h1⟩
    haveI : LtSize (s + 1) W := ⟨heap_lt h2⟩
    haveI : LtSize P W := ⟨heap_lt hp1⟩
    haveI : LtSize (P + 1) W := ⟨heap_lt hp2⟩
    have H1 := Lib.hid h1; have H2 := Lib.hid h2; have Hv := Lib.hid hv; have Hown := Lib.hid hown; have Hkp := Lib.hid hkp; have Hu := Lib.hid hu
    have Hup := Lib.hid hup
    clear h1 h2 hv hown hkp hbk hp1 hp2 hcon hTk hT0 hup c2 c3 o0 o1 o2 hu0 hu
    gi_wp2_with fail
    refine ⟨trivial, rfl, ?_⟩
    have hq := HT.out x.p x.q W
    cases htk : t x.p x.q
    · rw [htk] at hq
      refine (CallsIn.inRound l' (callsIn_wide.2 hq)).mono ?_
      clear hq
      rintro e w' ⟨rfl, y, rfl⟩
      gi_wp2_with fail
      refine ⟨(Kept.refl _ W).up y.up, ⟨⟨⟨Hu.out.trans y.up, Nat.le_trans (by omega) y.up.size⟩, (y.up.block _ (heap_lt H1.out)).trans H1.out, (y.up.block _ (heap_lt H2.out)).trans H2.out⟩, v, (y.up.block s (heap_lt Hv.out)).trans Hv.out, ?_⟩⟩
      rw [chosenL_snoc, htk, if_neg (by simp)]
      exact owns_up Hown.out y.up
    · rw [htk] at hq
      refine (CallsIn.inRound l' (callsIn_wide.2 hq)).mono ?_
      clear hq
      rintro e w' ⟨rfl, y, rfl⟩
      have hlen := Hup.out.len
      have hbd := Hup.out.bd
      have hys : s + 8 ≤ y.w.heap.size := Nat.le_trans hz y.up.size
      have hadd := spadd_any (chosenL t pre) k x.t v s (s + 8) y.w (by omega) ((y.up.block s (heap_lt Hv.out)).trans Hv.out) hys (owns_up Hown.out y.up) hbd k0 (by omega) t0 hk2 hlen
      have HA := Lib.hid hadd
      clear hlen hbd hadd
      gi_wp2_with fail
      refine ⟨trivial, rfl, ?_⟩
      refine (CallsIn.inRound l' (callsIn_wide.2 HA.out)).mono ?_
      clear HA
      rintro e w' ⟨rfl, v', hv', hown', hput⟩
      have Hv' := Lib.hid hv'
      have Hown' := Lib.hid hown'
      clear hv' hown'
      gi_wp2_with fail
      have hsy : ∀ n, n < W.heap.size → n < y.w.heap.size := fun n h => Nat.lt_of_lt_of_le h y.up.size
      have hlow : ∀ n, n < W.heap.size → n < s + 8 → n ≠ s → w'.heap[n]? = W.heap[n]? := fun n h1 h2 h3 => (hput.block n (hsy n h1) h2 h3).trans (y.up.block n h1)
      have hws : W.heap.size ≤ w'.heap.size := Nat.le_trans y.up.size hput.size
      have hu2 := Hu.out
      refine ⟨⟨hws, fun n hn hl => hlow n hl (by have := Hkp.out n hn; omega) (by have := Hkp.out n hn; omega)⟩, ⟨⟨⟨(hput.os.trans y.up.os).trans hu2.os, (hput.tape.trans y.up.tape).trans hu2.tape, (hput.output.trans y.up.output).trans hu2.output, Nat.le_trans hu2.size hws, fun n hn => (hlow n (Nat.lt_of_lt_of_le hn hu2.size) (by omega) (by omega)).trans (hu2.block n hn)⟩, by omega⟩, (hlow _ (heap_lt H1.out) (by omega) (by omega)).trans H1.out, (hlow _ (heap_lt H2.out) (by omega) (by omega)).trans H2.out⟩, v', Hv'.out, ?_⟩
      rw [chosenL_snoc, htk, if_pos rfl, hxf]
      exact Hown'.out
  case done =>
    rintro xs W hTi ⟨⟨⟨hu, hz⟩, h1, h2⟩, v, hv, hown⟩ hD
    have hup := hTi.upto (t := t)
    have hcv := cell_of_one hv
    have Hlen := Lib.hid hup.len
    have Hch := Lib.hid hup.fin
    have Hown := Lib.hid hown
    have HD2 := Lib.hid hD
    have Hu := Lib.hid hu
    haveI : LtSize s W := ⟨heap_lt hv⟩
    clear hown hD hbk hkp hv c2 c3 o0 o1 o2 hu0 h1 h2 hu hup hTi
    go_wp2_with fail
    refine ⟨by simp, .inl ⟨_, _, rfl, run_takeDeferred HD2.out, ?_⟩⟩
    have ht : Turn (fun k => k = W0.heap.size) W (W.putObj W0.heap.size (.deferred none)) := turn_putObj _ _ _ rfl
    exact ⟨_, results_tmp2 rfl _ _ _, v, _, rfl, Hch.out, Hlen.out, owns_base (owns_turn ht Hown.out (fun k hk => by omega)) (by omega), (ht.up Hu.out (fun k hk => by omega)).mk⟩
  case stop => intro c pre W h _; exact h.elim
end Go.Proofs.YtgfkcbflnkpogaaGreatDoor
