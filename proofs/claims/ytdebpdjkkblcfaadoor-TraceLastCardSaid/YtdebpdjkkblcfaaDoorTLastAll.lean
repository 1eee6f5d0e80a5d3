/- The walk of TraceLast. -/
import Derived.Test.YtdebpdjkkblcfaaDoorTLast0
namespace Go.Proofs.YtdebpdjkkblcfaaDoor
open Go.RowKit Go.Ab
set_option maxHeartbeats 32000000 in
set_option maxRecDepth 100000 in
theorem tlast_any (size now : Int) (l : List Sm) (v : Value) (w : World) (g : GoodT w) (hv : SmRow w v l) (hb : ∀ x ∈ l, SmB x) (s0 : 0 ≤ size) (s1 : size < 256) :
    Gives Tryd.prog 7 #[.int .u8 size, .int .i64 now, v] w (.bool true) := by
  have hok := madeL_ok now l hb
  have hEl : (madeL now l).length ≤ 80 := by rw [madeL_length]; omega
  have hmade := fun w' (h : UpI w w') => made_all now l v w' (hv.up h.up) hb
  generalize madeL now l = E at *
  obtain ⟨n, hn⟩ : ∃ n : Nat, (n : Int) = 1 + size % 30 := ⟨(1 + size % 30).toNat, by omega⟩
  have hn0 : 1 ≤ n := by omega
  have hn1 : n ≤ 30 := by omega
  obtain ⟨m, hm⟩ : ∃ m, E.length = m := ⟨_, rfl⟩
  have hok' := Lib.hid hok
  have hfill := fun w' u (h : EvRow w' u E) => filled_all size E u w' h hok'.out hEl s0 s1 n hn
  rw [hm] at hEl hmade
  have Hmade := Lib.hid hmade
  have Hfill := Lib.hid hfill
  have HM := Lib.hid hm
  have Hn := Lib.hid hn
  clear hmade hfill hm hn hv hb hok
  unfold Gives
  go_enter Tryd.func7, Tryd.ntmps7
  go_wp2_with (first
    | (go_at_call 9; refine (awake_any _ (g.up upI)).mono ?_; rintro e w' ⟨rfl, z, rfl⟩)
    | (go_at_call 20; refine (Hmade.out _ inferInstance).mono ?_; rintro e w' ⟨u, rfl, hown, hnil, x, rfl⟩))
  have hrow : EvRow x.w u E := EvRow.of_owns (by rw [HM.out]; exact hown)
  obtain ⟨lo, hlo⟩ : ∃ lo : Nat, lo = m - n := ⟨_, rfl⟩
  have hmax : max ((m : Int) - (n : Int)) 0 = (lo : Int) := by omega
  have hux : UpI w x.w := inferInstance
  have HR := Lib.hid hrow
  clear g Hmade
  -- the tail of the events
  obtain ⟨kl, hkl⟩ : ∃ kl : Nat, kl = m - lo := ⟨_, rfl⟩
  have HKL := Lib.hid (show min m n = kl by omega)
  have HL := Lib.hid (show lastL E n = E.drop lo by rw [lastL_drop, HM.out, hlo])
  have HS := Lib.hid (show sumTo E 40 = m by rw [sumTo_all E 40 (fun e he => by have := hok'.out.reason e he; omega), HM.out])
  have Hlo := Lib.hid hlo; have Hkl := Lib.hid hkl
  have HEQ : ∀ W a b, EvRow W a (E.drop lo) → EvRow W b (E.drop lo) → Gives Tryd.prog 24 #[a, b] W (.bool true) := fun W a b ha hb => (equal_ev W a b _ _ ha hb (by rw [List.length_drop, HM.out]; omega)).cast (by simp)
  rcases Nat.eq_zero_or_pos m with h0 | h0
  · subst h0
    obtain rfl : u = .slice none 0 0 := hnil (List.length_eq_zero_iff.1 HM.out)
    obtain rfl : lo = 0 := by omega
    obtain rfl : kl = 0 := by omega
    have HK : Hid (EvRow x.w (.slice none 0 0) (E.drop 0)) := HR
    clear hown hnil hrow hlo hkl
    go_wp2_with (first
      | (go_at_call 21; refine (Hfill.out _ _ HR.out).mono ?_; rintro e w' ⟨R, G, rfl, hring, hR, hG, y, rfl⟩
         have Hring := Lib.hid hring
         have hlist : ∀ W, UpI y.w W → Calls Tryd.prog 22 #[.pointer (some ⟨R, 0, none⟩)] W fun e w' => ∃ v, e = .returned v ∧ EvRow w' v (E.drop 0) ∧ ∃ x : Ext W, w' = x.w := fun W h => (ring_list W R G n E (Hring.out.up h.up)).mono fun _ _ ⟨v, h1, h2, h3⟩ => ⟨v, h1, by rw [← HL.out]; exact EvRow.of_owns h2, h3⟩
         have hlen : ∀ W, UpI y.w W → Gives Tryd.prog 28 #[.pointer (some ⟨R, 0, none⟩)] W (.int .i64 0) := fun W h => (ring_len W R G n E (Hring.out.up h.up)).cast (by rw [HM.out, HKL.out]; try rfl)
         have htot : ∀ W, UpI y.w W → Gives Tryd.prog 25 #[.pointer (some ⟨R, 0, none⟩)] W (.int .i64 0) := fun W h => (ring_total W R G n E (Hring.out.up h.up)).cast (by rw [HM.out]; try rfl)
         have hcnt : ∀ W (k : Nat), k < 40 → UpI y.w W → Gives Tryd.prog 29 #[.pointer (some ⟨R, 0, none⟩), .int .u8 (k : Int)] W (.int .i64 (countR E k : Int)) := fun W k hk h => (ring_count W R G n E (Hring.out.up h.up) k (by omega)).cast (by rw [hok'.out.count])
         have Hlist := Lib.hid hlist; have Hlen := Lib.hid hlen; have Htot := Lib.hid htot; have Hcnt := Lib.hid hcnt
         clear hring hlist hlen htot hcnt)
      | (go_at_call 22; refine (Hlist.out _ inferInstance).mono ?_; rintro e w' ⟨v1, rfl, hv1, y1, rfl⟩; have Hv1 := Lib.hid hv1; clear hv1)
      | (go_at_call 24; refine (HEQ _ _ _ Hv1.out (HK.out.up upI)).mono ?_; rintro e w' ⟨rfl, y2, rfl⟩)
      | (go_at_call 28; refine (Hlen.out _ inferInstance).mono ?_; rintro e w' ⟨rfl, y3, rfl⟩)
      | (go_at_call 25; refine (Htot.out _ inferInstance).mono ?_; rintro e w' ⟨rfl, y4, rfl⟩))
    clear Hlist Hlen Htot HEQ HK Hfill
    obtain ⟨W1, hW1⟩ : ∃ W1 : World, W1 = y4.w := ⟨_, rfl⟩
    have hyW : UpI y.w W1 := by rw [hW1]; infer_instance
    have hwW : UpI w W1 := by rw [hW1]; infer_instance
    have HRW : Hid (EvRow W1 (.slice none 0 0) E) := Lib.hid (by rw [hW1]; exact HR.out.up upI)
    rw [← hW1]
    clear hW1 HR
    go_loopw [12, 57] (fun sum r wr => ∃ k : Nat, k ≤ 40 ∧ r = .int .u8 (k : Int) ∧ sum = .int .i64 (sumTo E k : Int) ∧ ∃ x : Ext W1, wr = x.w) (fun _ r _ => 40 - (intOf r).toNat)
    case atStart => exact ⟨0, by omega, rfl, rfl, mkI⟩
    case round =>
      obtain ⟨k, hk, rfl, rfl, x1, rfl⟩ := hrel
      by_cases hlt : k < 40
      · have hsk := sumTo_le E k
        rw [HM.out] at hsk
        have hsk2 : sumTo E k ≤ 40 * 80 := Nat.le_trans hsk (Nat.mul_le_mul (by omega) (by omega))
        have hck := countR_le E k
        rw [HM.out] at hck
        have Hsn := Lib.hid (show sumTo E (k + 1) = sumTo E k + countR E k from rfl)
        clear hsk
        generalize sumTo E k = sk at *
        have hWo : UpI W1 x1.w := inferInstance
        have hyo : UpI y.w x1.w := inferInstance
        generalize x1.w = wo at *
        go_wp2_with fail
        go_loopw [14, 62] (fun many i wr => ∃ j : Nat, j ≤ 0 ∧ i = .int .i64 (j : Int) ∧ many = .int .i64 (countR (E.take j) k : Int) ∧ ∃ x : Ext wo, wr = x.w) (fun _ i _ => 0 - (intOf i).toNat)
        case atStart => exact ⟨0, Nat.zero_le _, rfl, rfl, mkI⟩
        case round =>
          obtain ⟨j, hj, rfl, rfl, x2, rfl⟩ := hrel
          by_cases hjm : j < 0
          · omega
          · obtain rfl : j = 0 := by omega
            have e : countR (E.take 0) k = countR E k := by rw [List.take_of_length_le (by rw [HM.out]; omega)]
            rw [e]
            clear e
            go_wp2_with (first
              | (go_at_call 29; refine (Hcnt.out _ k hlt inferInstance).mono ?_; rintro e w' ⟨rfl, y5, rfl⟩))
            go_roundw
            case rel => exact ⟨k + 1, by omega, by go_num, by rw [Hsn.out]; go_num, mkI⟩
            case measure => simp [intOf]; omega
      · obtain rfl : k = 40 := by omega
        rw [HS.out]
        go_wp2_with fail
        go_ret
        exact ⟨rfl, mkI⟩
  · obtain ⟨gb, cap, rfl, hgb, hgs, hcap, _⟩ := owns_cells hown h0
    have hlm : lo < m := by omega
    have hlc : (lo : Int) < (cap : Int) := by omega
    have HK : Hid (EvRow x.w (.slice (some ⟨gb, lo * 8, none⟩) kl (cap - lo)) (E.drop lo)) := by
      have := EvRow.tail (l := E) (cap := cap) (g := gb) (w := x.w) (by rw [HM.out]; exact hrow) lo (cap - lo)
      rw [HM.out, ← hkl] at this
      exact this
    have hkl' : m - lo = kl := hkl.symm
    clear hown hnil hrow hlo hkl
    go_wp2_with (first
      | (go_at_call 21; refine (Hfill.out _ _ HR.out).mono ?_; rintro e w' ⟨R, G, rfl, hring, hR, hG, y, rfl⟩
         have Hring := Lib.hid hring
         have hlist : ∀ W, UpI y.w W → Calls Tryd.prog 22 #[.pointer (some ⟨R, 0, none⟩)] W fun e w' => ∃ v, e = .returned v ∧ EvRow w' v (E.drop lo) ∧ ∃ x : Ext W, w' = x.w := fun W h => (ring_list W R G n E (Hring.out.up h.up)).mono fun _ _ ⟨v, h1, h2, h3⟩ => ⟨v, h1, by rw [← HL.out]; exact EvRow.of_owns h2, h3⟩
         have hlen : ∀ W, UpI y.w W → Gives Tryd.prog 28 #[.pointer (some ⟨R, 0, none⟩)] W (.int .i64 (kl : Int)) := fun W h => (ring_len W R G n E (Hring.out.up h.up)).cast (by rw [HM.out, HKL.out]; try rfl)
         have htot : ∀ W, UpI y.w W → Gives Tryd.prog 25 #[.pointer (some ⟨R, 0, none⟩)] W (.int .i64 (m : Int)) := fun W h => (ring_total W R G n E (Hring.out.up h.up)).cast (by rw [HM.out]; try rfl)
         have hcnt : ∀ W (k : Nat), k < 40 → UpI y.w W → Gives Tryd.prog 29 #[.pointer (some ⟨R, 0, none⟩), .int .u8 (k : Int)] W (.int .i64 (countR E k : Int)) := fun W k hk h => (ring_count W R G n E (Hring.out.up h.up) k (by omega)).cast (by rw [hok'.out.count])
         have Hlist := Lib.hid hlist; have Hlen := Lib.hid hlen; have Htot := Lib.hid htot; have Hcnt := Lib.hid hcnt
         clear hring hlist hlen htot hcnt)
      | (go_at_call 22; refine (Hlist.out _ inferInstance).mono ?_; rintro e w' ⟨v1, rfl, hv1, y1, rfl⟩; have Hv1 := Lib.hid hv1; clear hv1)
      | (go_at_call 24; refine (HEQ _ _ _ Hv1.out (HK.out.up upI)).mono ?_; rintro e w' ⟨rfl, y2, rfl⟩)
      | (go_at_call 28; refine (Hlen.out _ inferInstance).mono ?_; rintro e w' ⟨rfl, y3, rfl⟩)
      | (go_at_call 25; refine (Htot.out _ inferInstance).mono ?_; rintro e w' ⟨rfl, y4, rfl⟩))
    clear Hlist Hlen Htot HEQ HK Hfill
    obtain ⟨W1, hW1⟩ : ∃ W1 : World, W1 = y4.w := ⟨_, rfl⟩
    have hyW : UpI y.w W1 := by rw [hW1]; infer_instance
    have hwW : UpI w W1 := by rw [hW1]; infer_instance
    have HRW : Hid (EvRow W1 (.slice (some ⟨gb, 0, none⟩) m cap) E) := Lib.hid (by rw [hW1]; exact HR.out.up upI)
    rw [← hW1]
    clear hW1 HR
    go_loopw [12, 57] (fun sum r wr => ∃ k : Nat, k ≤ 40 ∧ r = .int .u8 (k : Int) ∧ sum = .int .i64 (sumTo E k : Int) ∧ ∃ x : Ext W1, wr = x.w) (fun _ r _ => 40 - (intOf r).toNat)
    case atStart => exact ⟨0, by omega, rfl, rfl, mkI⟩
    case round =>
      obtain ⟨k, hk, rfl, rfl, x1, rfl⟩ := hrel
      by_cases hlt : k < 40
      · have hsk := sumTo_le E k
        rw [HM.out] at hsk
        have hsk2 : sumTo E k ≤ 40 * 80 := Nat.le_trans hsk (Nat.mul_le_mul (by omega) (by omega))
        have hck := countR_le E k
        rw [HM.out] at hck
        have Hsn := Lib.hid (show sumTo E (k + 1) = sumTo E k + countR E k from rfl)
        clear hsk
        generalize sumTo E k = sk at *
        have hWo : UpI W1 x1.w := inferInstance
        have hyo : UpI y.w x1.w := inferInstance
        generalize x1.w = wo at *
        go_wp2_with fail
        go_loopw [14, 62] (fun many i wr => ∃ j : Nat, j ≤ m ∧ i = .int .i64 (j : Int) ∧ many = .int .i64 (countR (E.take j) k : Int) ∧ ∃ x : Ext wo, wr = x.w) (fun _ i _ => m - (intOf i).toNat)
        case atStart => exact ⟨0, Nat.zero_le _, rfl, rfl, mkI⟩
        case round =>
          obtain ⟨j, hj, rfl, rfl, x2, rfl⟩ := hrel
          by_cases hjm : j < m
          · have hjm' : (j : Int) < (m : Int) := by omega
            obtain ⟨p, cap', hpv, hc⟩ := HRW.out.up hWo.up
            obtain ⟨b, o, hp, hbw, hcc⟩ := hc j (by rw [HM.out]; exact hjm)
            obtain ⟨rfl, _, rfl⟩ := Value.slice.inj hpv
            obtain ⟨ev, he⟩ : ∃ ev, E[j]? = some ev := ⟨_, List.getElem?_eq_getElem (by rw [HM.out]; exact hjm)⟩
            simp only [he, Option.bind_some] at hcc
            obtain ⟨hb1, ho1⟩ : gb = b ∧ 0 = o := by simpa using hp
            subst hb1 ho1
            have c0 := hcc 0 _ rfl; have c1 := hcc 1 _ rfl; have c2 := hcc 2 _ rfl; have c3 := hcc 3 _ rfl; have c4 := hcc 4 _ rfl; have c5 := hcc 5 _ rfl; have c6 := hcc 6 _ rfl; have c7 := hcc 7 _ rfl
            rw [Nat.add_zero] at c0
            rw [Nat.zero_add] at c0 c1 c2 c3 c4 c5 c6 c7
            haveI : LtSize gb wo := ⟨hbw⟩
            have hcj := countR_le (E.take j) k
            rw [List.length_take] at hcj
            have Hn2 := Lib.hid (show countR (E.take (j + 1)) k = countR (E.take j) k + (if ev.r = (k : Int) then 1 else 0) by rw [take_snoc E j ev he, countR_snoc2])
            clear hpv hc hcc hp he
            generalize countR (E.take j) k = cj at *
            by_cases hr : ev.r = (k : Int)
            · have hrb : (ev.r == (k : Int)) = true := by simpa using hr
              have Hr := Lib.hid hr
              clear hr
              go_wp2_with fail
              go_roundw
              case rel => exact ⟨j + 1, by omega, by go_num, by rw [Hn2.out, if_pos Hr.out]; go_num, mkI⟩
              case measure => simp [intOf]; omega
            · have hrb : (ev.r == (k : Int)) = false := by simpa using hr
              have Hr := Lib.hid hr
              clear hr
              go_wp2_with fail
              go_roundw
              case rel => exact ⟨j + 1, by omega, by go_num, by rw [Hn2.out, if_neg Hr.out]; rfl, mkI⟩
              case measure => simp [intOf]; omega
          · obtain rfl : j = m := by omega
            have e : countR (E.take j) k = countR E k := by rw [List.take_of_length_le (by rw [HM.out]; omega)]
            rw [e]
            clear e
            go_wp2_with (first
              | (go_at_call 29; refine (Hcnt.out _ k hlt inferInstance).mono ?_; rintro e w' ⟨rfl, y5, rfl⟩))
            go_roundw
            case rel => exact ⟨k + 1, by omega, by go_num, by rw [Hsn.out]; go_num, mkI⟩
            case measure => simp [intOf]; omega
      · obtain rfl : k = 40 := by omega
        rw [HS.out]
        go_wp2_with fail
        go_ret
        exact ⟨rfl, mkI⟩
end Go.Proofs.YtdebpdjkkblcfaaDoor
