/- The walk of TraceAgrees. -/
import Derived.Test.YtdebpdjkkblcfaaDoorTLast0
namespace Go.Ab
open Go.RowKit Go.Proofs.YtdebpdjkkblcfaaDoor
theorem numbered_snoc : ∀ (l : List Ev) (n : Nat) (e : Ev), numbered n (l ++ [e]) = numbered n l ++ [(n + l.length, e)]
  | [], _, _ => rfl
  | x :: t, n, e => by
    rw [List.cons_append, numbered, numbered, numbered_snoc t, List.cons_append, List.length_cons, show n + 1 + t.length = n + (t.length + 1) by omega]
/-- The numbered events from one number up to another. -/
def keptTo (E : List Ev) (lo k : Nat) : List (Nat × Ev) := numbered lo ((E.take k).drop lo)
theorem keptTo_low (E : List Ev) (lo k : Nat) (h : k ≤ lo) : keptTo E lo k = [] := by
  unfold keptTo
  rw [List.drop_of_length_le (by rw [List.length_take]; omega)]
  rfl
theorem keptTo_step (E : List Ev) (lo k : Nat) (e : Ev) (he : E[k]? = some e) (h : lo ≤ k) : keptTo E lo (k + 1) = keptTo E lo k ++ [(k, e)] := by
  have hk : k < E.length := (List.getElem?_eq_some_iff.1 he).1
  have hl : (E.take k).length = k := by rw [List.length_take]; omega
  unfold keptTo
  rw [take_snoc E k e he, List.drop_append_of_le_length (by omega), numbered_snoc, List.length_drop, hl, show lo + (k - lo) = k by omega]
theorem keptTo_end (E : List Ev) (n : Nat) : keptTo E (E.length - n) E.length = keptL E n := by
  unfold keptTo keptL
  rw [List.take_length, show E.length - min E.length n = E.length - n by omega]
theorem keptTo_length (E : List Ev) (lo k : Nat) : (keptTo E lo k).length ≤ k := by
  unfold keptTo; rw [numbered_length, List.length_drop, List.length_take]; omega
/-- A row of other elements is not touched where one row has grown. -/
theorem owns_other {w w' : World} {base base' : Nat} {e e' : TypeId} {size size' : Nat} {v v' : Value} {n n' : Nat} {xs xs' : List Value} (h2 : w.ownsRow base' e' size' v' n' xs') (h1 : w.ownsRow base e size v n xs) (hg : w.grownBy w' v.ownBlock) (hne : e ≠ e') : w'.ownsRow base' e' size' v' n' xs' := by
  obtain ⟨a1, a2⟩ := h2
  refine ⟨a1, ?_⟩
  rcases a2 with a2 | ⟨g, cap, cur, hv, hgb, hh, r⟩
  · exact .inl a2
  · refine .inr ⟨g, cap, cur, hv, hgb, ?_, r⟩
    rw [hg.block g (Array.getElem?_eq_some_iff.1 hh).1 ?_]
    · exact hh
    · intro hk
      obtain ⟨_, ⟨rfl, _⟩ | ⟨g', cap', cur', rfl, _, hh', _⟩⟩ := h1
      · cases hk
      · have : g = g' := by cases hk; rfl
        subst this
        rw [hh] at hh'
        injection hh' with hh'
        injection hh' with _ ht
        exact hne ht.symm
theorem owns_lt {w : World} {base : Nat} {e : TypeId} {size : Nat} {v : Value} {n : Nat} {xs : List Value} (h : w.ownsRow base e size v n xs) : ∀ k, v.ownBlock = some k → k < w.heap.size := by
  obtain ⟨_, ⟨rfl, _⟩ | ⟨g, cap, cur, rfl, _, hh, _⟩⟩ := h
  · intro k hk; cases hk
  · intro k hk; cases hk; exact (Array.getElem?_eq_some_iff.1 hh).1
theorem grown_cell {w w' : World} {row : Option Nat} (hg : w.grownBy w' row) {b o : Nat} {u : Value} (hc : w.cell? ⟨b, o, none⟩ = some u) (hne : ∀ k, row = some k → k < b) : w'.cell? ⟨b, o, none⟩ = some u :=
  (World.cell?_of_block (hg.block b (cell_lt' hc) (fun e => by have := hne b e.symm; omega))).trans hc
end Go.Ab
namespace Go.Proofs.YtdebpdjkkblcfaaDoor
open Go.RowKit Go.Ab
attribute [local go_sem high] eq_event
set_option maxHeartbeats 32000000 in
set_option maxRecDepth 100000 in
theorem tagrees_any (size now number reason : Int) (l : List Sm) (v : Value) (w : World) (g : GoodT w) (hv : SmRow w v l) (hb : ∀ x ∈ l, SmB x) (s0 : 0 ≤ size) (s1 : size < 256) (nb0 : -9223372036854775808 ≤ number) (nb1 : number ≤ 9223372036854775807) :
    Gives Tryd.prog 8 #[.int .u8 size, .int .i64 now, v, .int .i64 number, .int .u8 reason] w (.bool true) := by
  have hok := madeL_ok now l hb
  have hEl : (madeL now l).length ≤ 80 := by rw [madeL_length]; omega
  have hmade := fun w' (h : UpI w w') => made_all now l v w' (hv.up h.up) hb
  generalize madeL now l = E at *
  obtain ⟨n, hn⟩ : ∃ n : Nat, (n : Int) = 1 + size % 30 := ⟨(1 + size % 30).toNat, by omega⟩
  have hn0 : 1 ≤ n := by omega
  have hn1 : n ≤ 30 := by omega
  obtain ⟨m, hm⟩ : ∃ m, E.length = m := ⟨_, rfl⟩
  have hok' := Lib.hid hok
  have hfill := fun w' u (h : EvRow w' u E) => filled_all size E u w' h hok'.out hEl s0 s1 n hn
  rw [hm] at hEl hmade
  obtain ⟨lo, hlo⟩ : ∃ lo : Nat, lo = m - n := ⟨_, rfl⟩
  have hmax : max ((m : Int) - (n : Int)) 0 = (lo : Int) := by omega
  have hlom : lo ≤ m := by omega
  have Hend := Lib.hid (show keptTo E lo m = keptL E n by rw [← keptTo_end, hm, ← hlo])
  have Hmade := Lib.hid hmade
  have Hfill := Lib.hid hfill
  have HM := Lib.hid hm
  have Hn := Lib.hid hn
  have Hlo := Lib.hid hlo
  have hZ : evB 0 0 0 0 0 0 0 0 0 0 0 0 0 0 0 0 = true := by decide
  obtain ⟨i0, hi, hy0, hy1, hy2⟩ := info_parts infoEvent
  obtain ⟨j0, hj, hk0, hk1, hk2⟩ := info_parts infoInt
  have Hi := Lib.hid hi; have Hy0 := Lib.hid hy0; have Hy1 := Lib.hid hy1; have Hy2 := Lib.hid hy2
  have Hj := Lib.hid hj; have Hk0 := Lib.hid hk0; have Hk1 := Lib.hid hk1; have Hk2 := Lib.hid hk2
  clear hmade hfill hm hn hv hb hok hi hy0 hy1 hy2 hj hk0 hk1 hk2 hlo
  unfold Gives
  go_enter Tryd.func8, Tryd.ntmps8
  go_wp2_with (first
    | (go_at_call 9; refine (awake_any _ (g.up upI)).mono ?_; rintro e w' ⟨rfl, z, rfl⟩)
    | (go_at_call 20; refine (Hmade.out _ inferInstance).mono ?_; rintro e w' ⟨u, rfl, hown, hnil, x, rfl⟩; have HR := Lib.hid (show EvRow x.w u E from EvRow.of_owns (by rw [HM.out]; exact hown)); clear hown hnil; obtain ⟨pu, cu, hu, hcu⟩ := HR.out; rw [HM.out] at hu; subst hu; have Hc := Lib.hid hcu; clear hcu)
    | (go_at_call 21; refine (Hfill.out _ _ HR.out).mono ?_; rintro e w' ⟨R, G, rfl, hring, hR, hG, y, rfl⟩; have Hring := Lib.hid hring; clear hring hR hG Hfill Hmade))
  have hxy : UpI x.w y.w := inferInstance
  have hwy : UpI w y.w := inferInstance
  clear g
  have Hc' : Hid (∀ i, i < m → ∃ b o, pu = some ⟨b, o, none⟩ ∧ b < y.w.heap.size ∧ ∀ j u, ((E[i]?).bind fun e => e.cells[j]?) = some u → y.w.cell? ⟨b, o + i * 8 + j, none⟩ = some u) := fun i hi => by
    obtain ⟨b, o, hp, hb, h⟩ := Hc.out i (by rw [HM.out]; exact hi)
    exact ⟨b, o, hp, Nat.lt_of_lt_of_le hb hxy.up.size, fun j u hj => hxy.up.cell_some' (h j u hj)⟩
  clear Hc HR
  generalize y.w = W1 at *
  go_loopw [16, 17, 47] (fun since wher i wr => ∃ k : Nat, k ≤ m ∧ i = .int .i64 (k : Int) ∧ Hid (wr.ownsRow W1.heap.size 31 8 since (sinceL number (keptTo E lo k)).length (evCells (sinceL number (keptTo E lo k)))) ∧ Hid (wr.ownsRow W1.heap.size 3 1 wher (whereL reason (keptTo E lo k)).length (intCells (whereL reason (keptTo E lo k)))) ∧ ∃ x : Ext W1, wr = x.w) (fun _ _ i _ => m - (intOf i).toNat)
  case atStart => exact ⟨0, Nat.zero_le _, rfl, Lib.hid (by rw [keptTo_low _ _ _ (Nat.zero_le _)]; exact World.ownsRow_nil _ _ _ _), Lib.hid (by rw [keptTo_low _ _ _ (Nat.zero_le _)]; exact World.ownsRow_nil _ _ _ _), mkI⟩
  case round =>
    obtain ⟨k, hk, rfl, Hs, Hw, x1, rfl⟩ := hrel
    by_cases hlt : k < m
    · have hlt' : (k : Int) < (m : Int) := by omega
      obtain ⟨b, o, rfl, hbw, hcc⟩ := Hc'.out k hlt
      obtain ⟨e, he⟩ : ∃ e, E[k]? = some e := ⟨_, List.getElem?_eq_getElem (by rw [HM.out]; exact hlt)⟩
      simp only [he, Option.bind_some] at hcc
      have c0 := hcc 0 _ rfl; have c1 := hcc 1 _ rfl; have c2 := hcc 2 _ rfl; have c3 := hcc 3 _ rfl; have c4 := hcc 4 _ rfl; have c5 := hcc 5 _ rfl; have c6 := hcc 6 _ rfl; have c7 := hcc 7 _ rfl
      rw [Nat.add_zero] at c0
      haveI : LtSize b W1 := ⟨hbw⟩
      have HE := Lib.hid he
      have hAA : evB e.n e.sd e.r e.pr e.s e.d e.sp e.dp e.n e.sd e.r e.pr e.s e.d e.sp e.dp = true := by rw [evB_eq]; simp
      have hsl := Nat.le_trans (sinceL_length number (keptTo E lo k)) (keptTo_length E lo k)
      have hwl := Nat.le_trans (whereL_length reason (keptTo E lo k)) (keptTo_length E lo k)
      clear hcc he
      by_cases hge : lo ≤ k
      · have hge' : (lo : Int) ≤ (k : Int) := by omega
        have hst := keptTo_step E lo k e HE.out hge
        have Hst := Lib.hid hst
        have hget := Lib.hid (fun W (h : UpI W1 W) => ring_get W R G n E (Hring.out.up h.up) k e HE.out (by have := Hlo.out; rw [HM.out]; omega))
        unfold Ev.val at hget
        clear hst
        by_cases hnm : number ≤ (k : Int)
        · by_cases hrm : e.r = reason
          · have hnb : number ≤ (k : Int) := hnm
            have hrb : (e.r == reason) = true := by simpa using hrm
            have HNM := Lib.hid hnm
            have HRM := Lib.hid hrm
            clear hnm hrm
            go_wp2_with (first
              | (go_at_call 26; refine (hget.out _ inferInstance).mono ?_; rintro e w' ⟨rfl, z, rfl⟩)
              | (at_builtin; refine wpList_append_own _ rfl _ _ 49 rfl W1.heap.size 31 i0 Ev.zero.val 8 32 Tryd.underlying49 Hi.out Hy0.out Hy1.out Hy2.out rfl (by decide) _ _ _ rfl (owns_up Hs.out (upI : Up x1.w _)) ⟨_, 0, none⟩ 1 1 e.cells rfl rfl ?a111 ?a112 ?a113 ?a114 ?a115 ?_))
            case a111 =>
              intro j u hj
              have hj8 : j < 8 := (List.getElem?_eq_some_iff.1 hj).1
              rcases (by omega : j = 0 ∨ j = 1 ∨ j = 2 ∨ j = 3 ∨ j = 4 ∨ j = 5 ∨ j = 6 ∨ j = 7) with rfl | rfl | rfl | rfl | rfl | rfl | rfl | rfl
              all_goals (simp [Ev.cells] at hj; subst hj; simp [Addr.add, go_sem])
            case a112 =>
              intro u hu
              simp [Ev.cells] at hu
              rcases hu with rfl | rfl | rfl | rfl | rfl | rfl | rfl | rfl <;> rfl
            case a113 => unfold maxLen; omega
            case a114 => omega
            case a115 => exact (upI : Up W1 _).size
            intro v' w1 hown' hgrow _
            have hw1 := owns_other (owns_up Hw.out (upI : Up x1.w _)) (owns_up Hs.out (upI : Up x1.w _)) hgrow (by decide)
            have hu1 : Up W1 w1 := Up.grown (upI : Up W1 _) hgrow (owns_row Hs.out)
            have hbx : w1.cell? ⟨x1.w.heap.size, 2, none⟩ = some (.int .u8 e.r) := grown_cell hgrow (by simp [go_sem]) (owns_lt Hs.out)
            obtain ⟨x2, rfl⟩ := hu1.mk
            have Hs' := Lib.hid hown'
            have Hw' := Lib.hid hw1
            clear hown' hgrow hw1 hu1
            go_wp2_with (first
              | (at_builtin; refine wpList_append_own _ rfl _ _ 68 rfl W1.heap.size 3 j0 (.int .i64 0) 1 8 Tryd.underlying68 Hj.out Hk0.out Hk1.out Hk2.out rfl (by decide) _ _ _ rfl (owns_up Hw'.out (upI : Up x2.w _)) ⟨_, 0, none⟩ 1 1 [.int .i64 (k : Int)] rfl rfl ?b111 ?b112 ?b113 ?b114 ?b115 ?_))
            case b111 =>
              intro j u hj
              rcases j with _ | j
              · simp at hj; subst hj; simp [Addr.add, go_sem]
              · simp at hj
            case b112 =>
              intro u hu
              simp at hu
              subst hu; rfl
            case b113 => unfold maxLen; omega
            case b114 => omega
            case b115 => exact (upI : Up W1 _).size
            intro v2 w2 hown2 hgrow2 _
            have hs2 := owns_other (owns_up Hs'.out (upI : Up x2.w _)) (owns_up Hw'.out (upI : Up x2.w _)) hgrow2 (by decide)
            have hu2 : Up W1 w2 := Up.grown (upI : Up W1 _) hgrow2 (owns_row Hw'.out)
            obtain ⟨x3, rfl⟩ := hu2.mk
            have Hs2 := Lib.hid hs2
            have Hw2 := Lib.hid hown2
            clear hown2 hgrow2 hs2 hu2
            go_wp2_with fail
            go_roundw
            case rel => exact ⟨k + 1, by omega, by go_num, Lib.hid (by rw [Hst.out, sinceL_snoc, if_pos HNM.out, List.length_append, evCells_snoc]; exact owns_up Hs2.out upI), Lib.hid (by rw [Hst.out, whereL_snoc, if_pos HRM.out, List.length_append, intCells_snoc]; exact owns_up Hw2.out upI), mkI⟩
            case measure => simp [intOf]; omega
          · have hnb : number ≤ (k : Int) := hnm
            have hrb : (e.r == reason) = false := by simpa using hrm
            have HNM := Lib.hid hnm
            have HRM := Lib.hid hrm
            clear hnm hrm
            go_wp2_with (first
              | (go_at_call 26; refine (hget.out _ inferInstance).mono ?_; rintro e w' ⟨rfl, z, rfl⟩)
              | (at_builtin; refine wpList_append_own _ rfl _ _ 49 rfl W1.heap.size 31 i0 Ev.zero.val 8 32 Tryd.underlying49 Hi.out Hy0.out Hy1.out Hy2.out rfl (by decide) _ _ _ rfl (owns_up Hs.out (upI : Up x1.w _)) ⟨_, 0, none⟩ 1 1 e.cells rfl rfl ?a101 ?a102 ?a103 ?a104 ?a105 ?_))
            case a101 =>
              intro j u hj
              have hj8 : j < 8 := (List.getElem?_eq_some_iff.1 hj).1
              rcases (by omega : j = 0 ∨ j = 1 ∨ j = 2 ∨ j = 3 ∨ j = 4 ∨ j = 5 ∨ j = 6 ∨ j = 7) with rfl | rfl | rfl | rfl | rfl | rfl | rfl | rfl
              all_goals (simp [Ev.cells] at hj; subst hj; simp [Addr.add, go_sem])
            case a102 =>
              intro u hu
              simp [Ev.cells] at hu
              rcases hu with rfl | rfl | rfl | rfl | rfl | rfl | rfl | rfl <;> rfl
            case a103 => unfold maxLen; omega
            case a104 => omega
            case a105 => exact (upI : Up W1 _).size
            intro v' w1 hown' hgrow _
            have hw1 := owns_other (owns_up Hw.out (upI : Up x1.w _)) (owns_up Hs.out (upI : Up x1.w _)) hgrow (by decide)
            have hu1 : Up W1 w1 := Up.grown (upI : Up W1 _) hgrow (owns_row Hs.out)
            have hbx : w1.cell? ⟨x1.w.heap.size, 2, none⟩ = some (.int .u8 e.r) := grown_cell hgrow (by simp [go_sem]) (owns_lt Hs.out)
            obtain ⟨x2, rfl⟩ := hu1.mk
            have Hs' := Lib.hid hown'
            have Hw' := Lib.hid hw1
            clear hown' hgrow hw1 hu1
            go_wp2_with fail
            go_roundw
            case rel => exact ⟨k + 1, by omega, by go_num, Lib.hid (by rw [Hst.out, sinceL_snoc, if_pos HNM.out, List.length_append, evCells_snoc]; exact owns_up Hs'.out upI), Lib.hid (by rw [Hst.out, whereL_snoc, if_neg HRM.out, List.append_nil]; exact owns_up Hw'.out upI), mkI⟩
            case measure => simp [intOf]; omega
        · by_cases hrm : e.r = reason
          · have hnb : (k : Int) < number := by omega
            have hrb : (e.r == reason) = true := by simpa using hrm
            have HNM := Lib.hid hnm
            have HRM := Lib.hid hrm
            clear hnm hrm
            go_wp2_with (first
              | (go_at_call 26; refine (hget.out _ inferInstance).mono ?_; rintro e w' ⟨rfl, z, rfl⟩)
              | (at_builtin; refine wpList_append_own _ rfl _ _ 68 rfl W1.heap.size 3 j0 (.int .i64 0) 1 8 Tryd.underlying68 Hj.out Hk0.out Hk1.out Hk2.out rfl (by decide) _ _ _ rfl (owns_up Hw.out (upI : Up x1.w _)) ⟨_, 0, none⟩ 1 1 [.int .i64 (k : Int)] rfl rfl ?b011 ?b012 ?b013 ?b014 ?b015 ?_))
            case b011 =>
              intro j u hj
              rcases j with _ | j
              · simp at hj; subst hj; simp [Addr.add, go_sem]
              · simp at hj
            case b012 =>
              intro u hu
              simp at hu
              subst hu; rfl
            case b013 => unfold maxLen; omega
            case b014 => omega
            case b015 => exact (upI : Up W1 _).size
            intro v2 w2 hown2 hgrow2 _
            have hs2 := owns_other (owns_up Hs.out (upI : Up x1.w _)) (owns_up Hw.out (upI : Up x1.w _)) hgrow2 (by decide)
            have hu2 : Up W1 w2 := Up.grown (upI : Up W1 _) hgrow2 (owns_row Hw.out)
            obtain ⟨x3, rfl⟩ := hu2.mk
            have Hs2 := Lib.hid hs2
            have Hw2 := Lib.hid hown2
            clear hown2 hgrow2 hs2 hu2
            go_wp2_with fail
            go_roundw
            case rel => exact ⟨k + 1, by omega, by go_num, Lib.hid (by rw [Hst.out, sinceL_snoc, if_neg (by have := HNM.out; omega), List.append_nil]; exact owns_up Hs2.out upI), Lib.hid (by rw [Hst.out, whereL_snoc, if_pos HRM.out, List.length_append, intCells_snoc]; exact owns_up Hw2.out upI), mkI⟩
            case measure => simp [intOf]; omega
          · have hnb : (k : Int) < number := by omega
            have hrb : (e.r == reason) = false := by simpa using hrm
            have HNM := Lib.hid hnm
            have HRM := Lib.hid hrm
            clear hnm hrm
            go_wp2_with (first
              | (go_at_call 26; refine (hget.out _ inferInstance).mono ?_; rintro e w' ⟨rfl, z, rfl⟩))
            go_roundw
            case rel => exact ⟨k + 1, by omega, by go_num, Lib.hid (by rw [Hst.out, sinceL_snoc, if_neg (by have := HNM.out; omega), List.append_nil]; exact owns_up Hs.out upI), Lib.hid (by rw [Hst.out, whereL_snoc, if_neg HRM.out, List.append_nil]; exact owns_up Hw.out upI), mkI⟩
            case measure => simp [intOf]; omega
      · have hge' : (k : Int) < (lo : Int) := by omega
        have Hst := Lib.hid (show keptTo E lo (k + 1) = keptTo E lo k by rw [keptTo_low _ _ _ (by omega), keptTo_low _ _ _ (by omega)])
        have hget := Lib.hid (fun W (h : UpI W1 W) => ring_get_no W R G n E (Hring.out.up h.up) (k : Int) (.inr (by have := Hlo.out; rw [HM.out]; omega)) (by omega) (by omega))
        unfold Ev.val Ev.zero at hget
        simp only at hget
        go_wp2_with (first
          | (go_at_call 26; refine (hget.out _ inferInstance).mono ?_; rintro e w' ⟨rfl, z, rfl⟩))
        go_roundw
        case rel => exact ⟨k + 1, by omega, by go_num, Lib.hid (by rw [Hst.out]; exact owns_up Hs.out upI), Lib.hid (by rw [Hst.out]; exact owns_up Hw.out upI), mkI⟩
        case measure => simp [intOf]; omega
    · obtain rfl : k = m := by omega
      rw [Hend.out] at Hs Hw
      have hrs : EvRow x1.w u16 (sinceL number (keptL E n)) := EvRow.of_owns Hs.out
      have hrw : IntRow x1.w u17 ((whereL reason (keptL E n)).map fun n : Nat => (n : Int)) := IntRow.of_owns Hw.out
      have HRS := Lib.hid hrs
      have HRW := Lib.hid hrw
      have hmn0 : min number (-1) ≤ -1 := by omega
      have hmn1 : -9223372036854775808 ≤ min number (-1) := by omega
      have hmx0 : (k : Int) ≤ max number (k : Int) := by omega
      have hmx1 : max number (k : Int) ≤ 9223372036854775807 := by omega
      have hg1 := Lib.hid (fun W (h : UpI W1 W) => ring_get_no W R G n E (Hring.out.up h.up) (min number (-1)) (.inr (by rw [HM.out]; omega)) hmn1 (by omega))
      have hg2 := Lib.hid (fun W (h : UpI W1 W) => ring_get_no W R G n E (Hring.out.up h.up) (max number (k : Int)) (.inl (by rw [HM.out]; exact hmx0)) (by omega) hmx1)
      unfold Ev.val Ev.zero at hg1 hg2
      simp only at hg1 hg2
      have hlk := Lib.hid (show (sinceL number (keptL E n)).length ≤ 1000000 by have := sinceL_length number (keptL E n); have := keptL_length E n; rw [HM.out] at this; omega)
      have hlw := Lib.hid (show ((whereL reason (keptL E n)).map fun n : Nat => (n : Int)).length ≤ 1000000 by rw [List.length_map]; have := whereL_length reason (keptL E n); have := keptL_length E n; rw [HM.out] at this; omega)
      clear Hs Hw hrs hrw hmn0 hmn1 hmx0 hmx1
      go_wp2_with (first
        | (go_at_call 26; (with_reducible refine (hg1.out _ inferInstance).mono ?_); rintro e w' ⟨rfl, z1, rfl⟩)
        | (go_at_call 26; (with_reducible refine (hg2.out _ inferInstance).mono ?_); rintro e w' ⟨rfl, z2, rfl⟩)
        | (go_at_call 30; refine (ring_since _ R G n E (Hring.out.up upI) number).mono ?_; rintro e w' ⟨v1, rfl, hv1, z3, rfl⟩; have Hv1 := Lib.hid (EvRow.of_owns hv1); clear hv1)
        | (go_at_call 24; refine ((equal_ev _ _ _ _ _ Hv1.out (HRS.out.up upI) hlk.out).cast (by rw [decide_eq_true rfl])).mono ?_; rintro e w' ⟨rfl, z4, rfl⟩)
        | (go_at_call 32; refine (ring_where _ R G n E (Hring.out.up upI) reason).mono ?_; rintro e w' ⟨v2, rfl, hv2, z5, rfl⟩; have Hv2 := Lib.hid (IntRow.of_owns hv2); clear hv2)
        | (go_at_call 31; refine ((equal_int _ _ _ _ _ Hv2.out (HRW.out.up upI) hlw.out).cast (by rw [decide_eq_true rfl])).mono ?_; rintro e w' ⟨rfl, z6, rfl⟩))
      go_ret
      exact ⟨rfl, mkI⟩
end Go.Proofs.YtdebpdjkkblcfaaDoor
