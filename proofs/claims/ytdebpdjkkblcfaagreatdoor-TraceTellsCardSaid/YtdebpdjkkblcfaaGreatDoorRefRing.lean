/- The reference's ring of layer 41: what New, Get, Count, Since and Where return; slices compared by a function; a slice cleared. -/
import Derived.Test.YtdebpdjkkblcfaaGreatDoorEqual
import Derived.Laws.OwnMore
import Derived.Deep.RegionHeld3
namespace Go.Ab
open Go.RowKit Go.Proofs.YtdebpdjkkblcfaaGreatDoor
theorem numbered_snoc2 : ∀ (l : List Ev) (n : Nat) (e : Ev), numbered n (l ++ [e]) = numbered n l ++ [(n + l.length, e)]
  | [], _, _ => rfl
  | x :: t, n, e => by
    rw [List.cons_append, numbered, numbered, numbered_snoc2 t, List.cons_append, List.length_cons, show n + 1 + t.length = n + (t.length + 1) by omega]
/-- The numbered events from one number up to another. -/
def keptUp (E : List Ev) (lo k : Nat) : List (Nat × Ev) := numbered lo ((E.take k).drop lo)
theorem keptUp_low (E : List Ev) (lo k : Nat) (h : k ≤ lo) : keptUp E lo k = [] := by
  unfold keptUp
  rw [List.drop_of_length_le (by rw [List.length_take]; omega)]
  rfl
theorem keptUp_step (E : List Ev) (lo k : Nat) (e : Ev) (he : E[k]? = some e) (h : lo ≤ k) : keptUp E lo (k + 1) = keptUp E lo k ++ [(k, e)] := by
  have hk : k < E.length := (List.getElem?_eq_some_iff.1 he).1
  have hl : (E.take k).length = k := by rw [List.length_take]; omega
  unfold keptUp
  rw [take_snoc E k e he, List.drop_append_of_le_length (by omega), numbered_snoc2, List.length_drop, hl, show lo + (k - lo) = k by omega]
theorem keptUp_end (E : List Ev) (n : Nat) : keptUp E (E.length - n) E.length = keptL E n := by
  unfold keptUp keptL
  rw [List.take_length, show E.length - min E.length n = E.length - n by omega]
theorem keptUp_length (E : List Ev) (lo k : Nat) : (keptUp E lo k).length ≤ k := by
  unfold keptUp; rw [numbered_length, List.length_drop, List.length_take]; omega
theorem zeroCells_one (z : Array Value) (n : Nat) (h : ∀ u ∈ z.toList, u.oneCell' = true) (hz : 0 < z.size) : ∀ u ∈ (Builtin.zeroCells z n).toList, u.oneCell' = true := by
  intro u hu
  simp only [Builtin.zeroCells, Array.toList_map, List.mem_map] at hu
  obtain ⟨i, _, rfl⟩ := hu
  have hlt : i % z.size < z.size := Nat.mod_lt _ hz
  rw [getElem!_pos z (i % z.size) hlt]
  exact h _ (by simp)
section
variable {P : Program} {w : World}
/-- An owned row cleared: its block alone may change. -/
theorem run_clear_own (base : Nat) (t ty e : TypeId) (i : TypeInfo) (z : Value) (size : Nat) (ht : P.underlying t = some (.slice e)) (hi : P.info? e = some i) (hz : i.zero = some z)
    (hzs : z.cells.size = size) (hsz : 0 < size) (h1 : ∀ u ∈ z.cells.toList, u.oneCell' = true) (v : Value) (n : Nat) (xs : List Value) (hown : w.ownsRow base e size v n xs) :
    ∃ w', (Builtin.clear_ #[t] ty #[v]).run P w = .ok (.tuple #[]) w' ∧ w.grownBy w' v.ownBlock := by
  rcases hown.2 with ⟨rfl, rfl⟩ | ⟨g, cap, cur, rfl, _, hg, hnc, _, hcs, _⟩
  · exact ⟨w, by simp [Builtin.clear_, run_underlying ht], ⟨rfl, rfl, rfl, Nat.le_refl _, fun _ _ _ => rfl⟩⟩
  · by_cases hn : n = 0
    · subst hn
      exact ⟨w, by simp [Builtin.clear_, run_underlying ht], ⟨rfl, rfl, rfl, Nat.le_refl _, fun _ _ _ => rfl⟩⟩
    · have hlen : (Builtin.zeroCells z.cells n).toList.length = n * size := by rw [Array.length_toList, size_zeroCells, hzs]
      have hfit : 0 + 0 + (Builtin.zeroCells z.cells n).toList.length ≤ cur.size := by
        rw [hlen, hcs, Nat.zero_add]; exact Nat.mul_le_mul_right _ hnc
      have hr := run_storeCells_at (P := P) g 0 e (Builtin.zeroCells z.cells n).toList 0 cur w hg hfit (zeroCells_one _ _ h1 (by omega))
      generalize (List.take (0 + 0) cur.toList ++ (Builtin.zeroCells z.cells n).toList ++ List.drop (0 + 0 + (Builtin.zeroCells z.cells n).toList.length) cur.toList).toArray = X at hr
      exact ⟨w.setRow g X, by simp [Builtin.clear_, run_underlying ht, zeroValue, typeInfo, hi, hz, hn, hr], ⟨rfl, rfl, rfl, by simp, fun k _ hk => setRow_other w g k _ (fun e => hk (by simp [Value.ownBlock, e]))⟩⟩
theorem wpList_clear_own {ops : Array Oper} {rest : List Oper} {o : Oper} {a : Act} {Q : Exit → Act → World → Prop} (hgd : o.guard = none) (s : Operand) (t : TypeId)
    (ho : o.op = .call { callee := .builtin .clear, args := #[s], argTypes := #[t] })
    (base : Nat) (e : TypeId) (i : TypeInfo) (z : Value) (size : Nat) (ht : P.underlying t = some (.slice e)) (hi : P.info? e = some i) (hz : i.zero = some z)
    (hzs : z.cells.size = size) (hsz : 0 < size) (h1 : ∀ u ∈ z.cells.toList, u.oneCell' = true) (v : Value) (n : Nat) (xs : List Value) (hs : a.eval s = v) (hown : w.ownsRow base e size v n xs)
    (h : ∀ w', w.grownBy w' v.ownBlock → wpList P ops Q rest (a.put o.dst (.tuple #[])) w') : wpList P ops Q (o :: rest) a w := by
  refine wpList_plain hgd fun _ hK => ?_
  obtain ⟨w', hr, hg⟩ := run_clear_own (P := P) base t o.type e i z size ht hi hz hzs hsz h1 v n xs hown
  unfold Oper.wp execOp
  simp only [ho, resolve, invoke, builtin, Sem.run_bind, Sem.run_pure, Result.andThen_ok, List.map_toArray, List.map_cons, List.map_nil, hs, hr]
  exact hK _ _ (h w' hg)
end
end Go.Ab
namespace Go.Proofs.YtdebpdjkkblcfaaGreatDoor
open Go.RowKit Go.Ab
theorem infoREvent : (Tryz.prog.info? 37).map (fun i => (i.zero, i.size, i.bytes)) = some (some Ev.zero.val, 8, 32) := by kernel_rfl
set_option maxHeartbeats 4000000 in
set_option maxRecDepth 100000 in
theorem rring_new (size : Nat) (w : World) (h0 : 1 ≤ size) (h1 : size ≤ 4096) :
    Gives Tryz.prog 29 #[.int .i64 (size : Int)] w (.tuple #[.agg #[.int .i64 (size : Int), .slice none 0 0], .int .i64 0]) := by
  unfold Gives
  go_enter Tryz.func29, Tryz.ntmps29
  go_wp2_with fail
  refine bodyPost_ret (v := Value.tuple #[.agg #[.int .i64 (size : Int), .slice none 0 0], .int .i64 0]) (by simp [results, Tryz.results29, go_sem]) rfl ?_
  exact ⟨rfl, mkI⟩
set_option maxHeartbeats 4000000 in
set_option maxRecDepth 100000 in
theorem rring_new_no (n : Int) (w : World) (h : n < 1 ∨ 4096 < n) : Gives Tryz.prog 29 #[.int .i64 n] w (.tuple #[.agg #[.int .i64 0, .slice none 0 0], .int .i64 2]) := by
  unfold Gives
  rcases h with h | h
  all_goals
    go_enter Tryz.func29, Tryz.ntmps29
    go_wp2_with fail
    refine bodyPost_ret (v := Value.tuple #[.agg #[.int .i64 0, .slice none 0 0], .int .i64 2]) (by simp [results, Tryz.results29, go_sem]) rfl ?_
    exact ⟨rfl, mkI⟩
set_option maxHeartbeats 8000000 in
set_option maxRecDepth 100000 in
theorem rget_yes (w : World) (v : Value) (size : Nat) (E : List Ev) (hv : EvRow w v E) (hl : E.length ≤ 1000000) (s1 : size ≤ 4096) (n : Nat) (e : Ev) (he : E[n]? = some e) (hk : E.length ≤ n + size) :
    Gives Tryz.prog 51 #[.agg #[.int .i64 (size : Int), v], .int .i64 (n : Int)] w (.tuple #[e.val, .bool true]) := by
  have hn : n < E.length := (List.getElem?_eq_some_iff.1 he).1
  obtain ⟨p, cap, rfl, hc⟩ := hv
  obtain ⟨b, o, rfl, hb, hc⟩ := hc n hn
  simp only [he, Option.bind_some] at hc
  have c0 := hc 0 _ rfl; have c1 := hc 1 _ rfl; have c2 := hc 2 _ rfl; have c3 := hc 3 _ rfl; have c4 := hc 4 _ rfl; have c5 := hc 5 _ rfl; have c6 := hc 6 _ rfl; have c7 := hc 7 _ rfl
  rw [Nat.add_zero] at c0
  haveI : LtSize b w := ⟨hb⟩
  obtain ⟨N, hN⟩ : ∃ N, E.length = N := ⟨_, rfl⟩
  rw [hN] at hn hl hk ⊢
  have q0 : (0 : Int) ≤ (n : Int) := by omega
  have q1 : (n : Int) < (N : Int) := by omega
  have q2 : (N : Int) ≤ 1000000 := by omega
  have q3 : (N : Int) - (n : Int) ≤ (size : Int) := by omega
  have q4 : (size : Int) ≤ 4096 := by omega
  clear hc he hN hb
  unfold Gives Ev.val
  go_enter Tryz.func51, Tryz.ntmps51
  go_wp2_with fail
  all_goals first | (exfalso; omega) | skip
  refine bodyPost_ret (v := Value.tuple #[.agg #[.int .i64 e.n, .int .u8 e.sd, .int .u8 e.r, .int .u8 e.pr, .int .u32 e.s, .int .u32 e.d, .int .u16 e.sp, .int .u16 e.dp], .bool true]) (by simp [results, Tryz.results51, go_sem]) rfl ?_
  exact ⟨rfl, mkI⟩
set_option maxHeartbeats 8000000 in
set_option maxRecDepth 100000 in
theorem rget_no (w : World) (v : Value) (size : Nat) (E : List Ev) (hv : EvRow w v E) (hl : E.length ≤ 1000000) (s1 : size ≤ 4096) (n : Int) (n0 : -9223372036854775808 ≤ n) (n1 : n ≤ 9223372036854775807) (h : n < 0 ∨ (E.length : Int) ≤ n ∨ (size : Int) < (E.length : Int) - n) :
    Gives Tryz.prog 51 #[.agg #[.int .i64 (size : Int), v], .int .i64 n] w (.tuple #[Ev.zero.val, .bool false]) := by
  obtain ⟨p, cap, rfl, _⟩ := hv
  obtain ⟨N, hN⟩ : ∃ N, E.length = N := ⟨_, rfl⟩
  rw [hN] at hl h ⊢
  have q2 : (N : Int) ≤ 1000000 := by omega
  have q5 : (0 : Int) ≤ (N : Int) := by omega
  have q4 : (size : Int) ≤ 4096 := by omega
  have q6 : (0 : Int) ≤ (size : Int) := by omega
  clear hN
  unfold Gives Ev.val Ev.zero
  by_cases ha : n < 0
  · clear h
    go_enter Tryz.func51, Tryz.ntmps51
    go_wp2_with fail
    all_goals first | (exfalso; omega) | skip
    refine bodyPost_ret (v := Value.tuple #[.agg #[.int .i64 0, .int .u8 0, .int .u8 0, .int .u8 0, .int .u32 0, .int .u32 0, .int .u16 0, .int .u16 0], .bool false]) (by simp [results, Tryz.results51, go_sem]) rfl ?_
    exact ⟨rfl, mkI⟩
  · by_cases hb : (N : Int) ≤ n
    · have ha' : 0 ≤ n := by omega
      clear h
      go_enter Tryz.func51, Tryz.ntmps51
      go_wp2_with fail
      all_goals first | (exfalso; omega) | skip
      refine bodyPost_ret (v := Value.tuple #[.agg #[.int .i64 0, .int .u8 0, .int .u8 0, .int .u8 0, .int .u32 0, .int .u32 0, .int .u16 0, .int .u16 0], .bool false]) (by simp [results, Tryz.results51, go_sem]) rfl ?_
      exact ⟨rfl, mkI⟩
    · have ha' : 0 ≤ n := by omega
      have hb' : n < (N : Int) := by omega
      have hc : (size : Int) < (N : Int) - n := by omega
      clear h ha hb
      go_enter Tryz.func51, Tryz.ntmps51
      go_wp2_with fail
      all_goals first | (exfalso; omega) | skip
      refine bodyPost_ret (v := Value.tuple #[.agg #[.int .i64 0, .int .u8 0, .int .u8 0, .int .u8 0, .int .u32 0, .int .u32 0, .int .u16 0, .int .u16 0], .bool false]) (by simp [results, Tryz.results51, go_sem]) rfl ?_
      exact ⟨rfl, mkI⟩
set_option maxHeartbeats 8000000 in
set_option maxRecDepth 100000 in
theorem rcount_any (w : World) (v : Value) (size : Int) (E : List Ev) (hv : EvRow w v E) (hl : E.length ≤ 1000000) (r : Nat) :
    Gives Tryz.prog 56 #[.agg #[.int .i64 size, v], .int .u8 (r : Int)] w (.int .i64 (countR E r : Int)) := by
  obtain ⟨p, cap, rfl, hc⟩ := hv
  obtain ⟨N, hN⟩ : ∃ N, E.length = N := ⟨_, rfl⟩
  rw [hN] at hl hc ⊢
  have HN := Lib.hid hN
  clear hN
  unfold Gives
  go_enter Tryz.func56, Tryz.ntmps56
  go_wp2_with fail
  have r1 : (w.alloc (.cells #[.int .i64 size, .slice p (N : Int).toNat cap] 69)).cell? ⟨w.heap.size, 1, none⟩ = some (.slice p (N : Int).toNat cap) := by simp [go_sem]
  have uw : UpI w (w.alloc (.cells #[.int .i64 size, .slice p (N : Int).toNat cap] 69)) := inferInstance
  simp only [Int.toNat_natCast] at r1 uw
  generalize w.alloc (.cells #[.int .i64 size, .slice p N cap] 69) = W at *
  obtain ⟨B, hB⟩ : ∃ B, w.heap.size = B := ⟨_, rfl⟩
  rw [hB] at r1 ⊢
  clear hB
  haveI : LtSize B W := ⟨cell_lt' r1⟩
  go_loopw [5, 6] (fun cv i wr => ∃ (k : Nat) (c : Int), k ≤ N ∧ i = .int .i64 (k : Int) ∧ cv = .int .i64 c ∧ Hid (c = (countR (E.take k) r : Int)) ∧ 0 ≤ c ∧ c ≤ (k : Int) ∧ ∃ x : Ext W, wr = x.w) (fun _ i _ => N - (intOf i).toNat)
  case atStart => exact ⟨0, 0, by omega, rfl, rfl, Lib.hid rfl, by omega, by omega, mkI⟩
  case round =>
    obtain ⟨k, c, hk, rfl, rfl, Hc, c0, c1, x, rfl⟩ := hrel
    by_cases hlt : k < N
    · have hlt' : (k : Int) < (N : Int) := by omega
      obtain ⟨b, o, rfl, hb, hcc⟩ := hc k hlt
      obtain ⟨e, he⟩ : ∃ e, E[k]? = some e := ⟨_, List.getElem?_eq_getElem (by rw [HN.out]; exact hlt)⟩
      simp only [he, Option.bind_some] at hcc
      have q2 := uw.up.cell_some' (hcc 2 _ rfl)
      haveI : LtSize b W := ⟨Nat.lt_of_lt_of_le hb uw.up.size⟩
      have T1 := Lib.hid (take_snoc E k e he)
      clear hcc he
      by_cases her : e.r = (r : Int)
      · have hB : (e.r == (r : Int)) = true := by simpa using her
        have HE := Lib.hid her
        clear her
        go_wp2_with fail
        go_roundw
        case rel => exact ⟨k + 1, c + 1, by omega, by go_num, rfl, Lib.hid (by rw [T1.out, countR_snoc, if_pos HE.out, Hc.out]; rfl), by omega, by omega, mkI⟩
        case measure => simp [intOf]; omega
      · have hB : (e.r == (r : Int)) = false := by simpa using her
        have HE := Lib.hid her
        clear her
        go_wp2_with fail
        go_roundw
        case rel => exact ⟨k + 1, c, by omega, by go_num, rfl, Lib.hid (by rw [T1.out, countR_snoc, if_neg HE.out, Hc.out]; rfl), by omega, by omega, mkI⟩
        case measure => simp [intOf]; omega
    · obtain rfl : k = N := by omega
      have HQ := Lib.hid (show c = (countR E r : Int) by rw [Hc.out, ← HN.out, List.take_length])
      go_wp2_with fail
      go_ret
      exact ⟨ret_int HQ.out, mkI⟩
set_option maxHeartbeats 16000000 in
set_option maxRecDepth 100000 in
theorem rsince_any (w : World) (v : Value) (size : Nat) (E : List Ev) (hv : EvRow w v E) (hl : E.length ≤ 1000000) (s1 : size ≤ 4096) (number : Int) :
    Calls Tryz.prog 52 #[.agg #[.int .i64 (size : Int), v], .int .i64 number] w fun e w' =>
      ∃ u, e = .returned u ∧ EvRow w' u (sinceL number (keptL E size)) ∧ ∃ x : Ext w, w' = x.w := by
  have hget := fun (W : World) (h : UpI w W) n e he hk => rget_yes W v size E (hv.up h.up) hl s1 n e he hk
  have hgno := fun (W : World) (h : UpI w W) n n0 n1 hk => rget_no W v size E (hv.up h.up) hl s1 n n0 n1 hk
  obtain ⟨i0, hi, hy0, hy1, hy2⟩ := info_parts infoREvent
  have Hi := Lib.hid hi; have Hy0 := Lib.hid hy0; have Hy1 := Lib.hid hy1; have Hy2 := Lib.hid hy2
  clear hi hy0 hy1 hy2
  obtain ⟨p, cap, rfl, hc⟩ := hv
  obtain ⟨N, hN⟩ : ∃ N, E.length = N := ⟨_, rfl⟩
  obtain ⟨lo, hlo⟩ : ∃ lo : Nat, lo = N - size := ⟨_, rfl⟩
  have Hend := Lib.hid (show keptUp E lo N = keptL E size by rw [← keptUp_end, hN, ← hlo])
  have HN := Lib.hid hN
  have Hlo := Lib.hid hlo
  rw [hN] at hl hc hget hgno ⊢
  have Hget := Lib.hid hget
  have Hgno := Lib.hid hgno
  clear hN hlo hget hgno hc
  go_enter Tryz.func52, Tryz.ntmps52
  go_wp2_with fail
  have r0 : (w.alloc (.cells #[.int .i64 (size : Int), .slice p (N : Int).toNat cap] 69)).cell? ⟨w.heap.size, 0, none⟩ = some (.int .i64 (size : Int)) := by simp [go_sem]
  have r1 : (w.alloc (.cells #[.int .i64 (size : Int), .slice p (N : Int).toNat cap] 69)).cell? ⟨w.heap.size, 1, none⟩ = some (.slice p (N : Int).toNat cap) := by simp [go_sem]
  have uw : UpI w (w.alloc (.cells #[.int .i64 (size : Int), .slice p (N : Int).toNat cap] 69)) := inferInstance
  simp only [Int.toNat_natCast] at r0 r1 uw
  generalize w.alloc (.cells #[.int .i64 (size : Int), .slice p N cap] 69) = W at *
  obtain ⟨B, hB⟩ : ∃ B, w.heap.size = B := ⟨_, rfl⟩
  rw [hB] at r0 r1 ⊢
  clear hB
  haveI : LtSize B W := ⟨cell_lt' r1⟩
  go_loopw [5, 6] (fun out i wr => ∃ k : Nat, k ≤ N ∧ i = .int .i64 (k : Int) ∧ Hid (wr.ownsRow W.heap.size 37 8 out (sinceL number (keptUp E lo k)).length (evCells (sinceL number (keptUp E lo k)))) ∧ ∃ x : Ext W, wr = x.w) (fun _ i _ => N - (intOf i).toNat)
  case atStart => exact ⟨0, Nat.zero_le _, rfl, Lib.hid (by rw [keptUp_low _ _ _ (Nat.zero_le _)]; exact World.ownsRow_nil _ _ _ _), mkI⟩
  case round =>
    obtain ⟨k, hk, rfl, Hs, x1, rfl⟩ := hrel
    have uwx : UpI w x1.w := ⟨uw.up.ext x1⟩
    by_cases hlt : k < N
    · have hlt' : (k : Int) < (N : Int) := by omega
      obtain ⟨e, he⟩ : ∃ e, E[k]? = some e := ⟨_, List.getElem?_eq_getElem (by rw [HN.out]; exact hlt)⟩
      have HE := Lib.hid he
      have hsl := Nat.le_trans (sinceL_length number (keptUp E lo k)) (keptUp_length E lo k)
      clear he
      by_cases hge : lo ≤ k
      · have Hst := Lib.hid (keptUp_step E lo k e HE.out hge)
        have hg := Lib.hid (fun W' (h : UpI w W') => Hget.out W' h k e HE.out (by have := Hlo.out; omega))
        unfold Ev.val at hg
        by_cases hnm : number ≤ (k : Int)
        · have HNM := Lib.hid hnm
          go_wp2_with (first
            | (go_at_call 51; refine (hg.out _ inferInstance).mono ?_; rintro e w' ⟨rfl, z, rfl⟩)
            | (at_builtin; refine wpList_append_own _ rfl _ _ 67 rfl W.heap.size 37 i0 Ev.zero.val 8 32 Tryz.underlying67 Hi.out Hy0.out Hy1.out Hy2.out rfl (by decide) _ _ _ rfl (owns_up Hs.out (upI : Up x1.w _)) ⟨_, 0, none⟩ 1 1 e.cells rfl rfl ?a1 ?a2 ?a3 ?a4 ?a5 ?_))
          case a1 =>
            intro j u hj
            have hj8 : j < 8 := (List.getElem?_eq_some_iff.1 hj).1
            rcases (by omega : j = 0 ∨ j = 1 ∨ j = 2 ∨ j = 3 ∨ j = 4 ∨ j = 5 ∨ j = 6 ∨ j = 7) with rfl | rfl | rfl | rfl | rfl | rfl | rfl | rfl
            all_goals (simp [Ev.cells] at hj; subst hj; simp [Addr.add, go_sem])
          case a2 =>
            intro u hu
            simp [Ev.cells] at hu
            rcases hu with rfl | rfl | rfl | rfl | rfl | rfl | rfl | rfl <;> rfl
          case a3 => unfold maxLen; omega
          case a4 => omega
          case a5 => exact (upI : Up W _).size
          intro v' w1 hown' hgrow _
          have hu1 : Up W w1 := Up.grown (upI : Up W _) hgrow (owns_row Hs.out)
          obtain ⟨x2, rfl⟩ := hu1.mk
          have Hs' := Lib.hid hown'
          clear hown' hgrow hu1
          go_wp2_with fail
          go_roundw
          case rel => exact ⟨k + 1, by omega, by go_num, Lib.hid (by rw [Hst.out, sinceL_snoc, if_pos HNM.out, List.length_append, evCells_snoc]; exact owns_up Hs'.out upI), mkI⟩
          case measure => simp [intOf]; omega
        · have hnb : (k : Int) < number := by omega
          have HNM := Lib.hid hnm
          clear hnm
          go_wp2_with (first
            | (go_at_call 51; refine (hg.out _ inferInstance).mono ?_; rintro e w' ⟨rfl, z, rfl⟩))
          go_roundw
          case rel => exact ⟨k + 1, by omega, by go_num, Lib.hid (by rw [Hst.out, sinceL_snoc, if_neg (by have := HNM.out; omega), List.append_nil]; exact owns_up Hs.out upI), mkI⟩
          case measure => simp [intOf]; omega
      · have hg := Lib.hid (fun W' (h : UpI w W') => Hgno.out W' h (k : Int) (by omega) (by omega) (.inr (.inr (by have := Hlo.out; omega))))
        unfold Ev.val Ev.zero at hg
        have hst : keptUp E lo (k + 1) = keptUp E lo k := by rw [keptUp_low E lo (k + 1) (by omega), keptUp_low E lo k (by omega)]
        have Hst := Lib.hid hst
        clear hst
        go_wp2_with (first
          | (go_at_call 51; refine (hg.out _ inferInstance).mono ?_; rintro e w' ⟨rfl, z, rfl⟩))
        go_roundw
        case rel => exact ⟨k + 1, by omega, by go_num, Lib.hid (by rw [Hst.out]; exact owns_up Hs.out upI), mkI⟩
        case measure => simp [intOf]; omega
    · obtain rfl : k = N := by omega
      rw [Hend.out] at Hs
      go_wp2_with fail
      go_ret
      exact ⟨_, rfl, (EvRow.of_owns Hs.out).up upI, (upI : Up w _).mk⟩
set_option maxHeartbeats 16000000 in
set_option maxRecDepth 100000 in
theorem rwhere_any (w : World) (v : Value) (size : Nat) (E : List Ev) (hv : EvRow w v E) (hl : E.length ≤ 1000000) (s1 : size ≤ 4096) (reason : Int) :
    Calls Tryz.prog 55 #[.agg #[.int .i64 (size : Int), v], .int .u8 reason] w fun e w' =>
      ∃ u, e = .returned u ∧ IntRow w' u ((whereL reason (keptL E size)).map fun n : Nat => (n : Int)) ∧ ∃ x : Ext w, w' = x.w := by
  have hget := fun (W : World) (h : UpI w W) n e he hk => rget_yes W v size E (hv.up h.up) hl s1 n e he hk
  have hgno := fun (W : World) (h : UpI w W) n n0 n1 hk => rget_no W v size E (hv.up h.up) hl s1 n n0 n1 hk
  obtain ⟨i0, hi, hy0, hy1, hy2⟩ := info_parts infoInt
  have Hi := Lib.hid hi; have Hy0 := Lib.hid hy0; have Hy1 := Lib.hid hy1; have Hy2 := Lib.hid hy2
  clear hi hy0 hy1 hy2
  obtain ⟨p, cap, rfl, hc⟩ := hv
  obtain ⟨N, hN⟩ : ∃ N, E.length = N := ⟨_, rfl⟩
  obtain ⟨lo, hlo⟩ : ∃ lo : Nat, lo = N - size := ⟨_, rfl⟩
  have Hend := Lib.hid (show keptUp E lo N = keptL E size by rw [← keptUp_end, hN, ← hlo])
  have HN := Lib.hid hN
  have Hlo := Lib.hid hlo
  rw [hN] at hl hc hget hgno ⊢
  have Hget := Lib.hid hget
  have Hgno := Lib.hid hgno
  clear hN hlo hget hgno hc
  go_enter Tryz.func55, Tryz.ntmps55
  go_wp2_with fail
  have r0 : (w.alloc (.cells #[.int .i64 (size : Int), .slice p (N : Int).toNat cap] 69)).cell? ⟨w.heap.size, 0, none⟩ = some (.int .i64 (size : Int)) := by simp [go_sem]
  have r1 : (w.alloc (.cells #[.int .i64 (size : Int), .slice p (N : Int).toNat cap] 69)).cell? ⟨w.heap.size, 1, none⟩ = some (.slice p (N : Int).toNat cap) := by simp [go_sem]
  have uw : UpI w (w.alloc (.cells #[.int .i64 (size : Int), .slice p (N : Int).toNat cap] 69)) := inferInstance
  simp only [Int.toNat_natCast] at r0 r1 uw
  generalize w.alloc (.cells #[.int .i64 (size : Int), .slice p N cap] 69) = W at *
  obtain ⟨B, hB⟩ : ∃ B, w.heap.size = B := ⟨_, rfl⟩
  rw [hB] at r0 r1 ⊢
  clear hB
  haveI : LtSize B W := ⟨cell_lt' r1⟩
  go_loopw [5, 6] (fun out i wr => ∃ k : Nat, k ≤ N ∧ i = .int .i64 (k : Int) ∧ Hid (wr.ownsRow W.heap.size 3 1 out (whereL reason (keptUp E lo k)).length (intCells (whereL reason (keptUp E lo k)))) ∧ ∃ x : Ext W, wr = x.w) (fun _ i _ => N - (intOf i).toNat)
  case atStart => exact ⟨0, Nat.zero_le _, rfl, Lib.hid (by rw [keptUp_low _ _ _ (Nat.zero_le _)]; exact World.ownsRow_nil _ _ _ _), mkI⟩
  case round =>
    obtain ⟨k, hk, rfl, Hs, x1, rfl⟩ := hrel
    have uwx : UpI w x1.w := ⟨uw.up.ext x1⟩
    by_cases hlt : k < N
    · have hlt' : (k : Int) < (N : Int) := by omega
      obtain ⟨e, he⟩ : ∃ e, E[k]? = some e := ⟨_, List.getElem?_eq_getElem (by rw [HN.out]; exact hlt)⟩
      have HE := Lib.hid he
      have hsl := Nat.le_trans (whereL_length reason (keptUp E lo k)) (keptUp_length E lo k)
      clear he
      by_cases hge : lo ≤ k
      · have Hst := Lib.hid (keptUp_step E lo k e HE.out hge)
        have hg := Lib.hid (fun W' (h : UpI w W') => Hget.out W' h k e HE.out (by have := Hlo.out; omega))
        unfold Ev.val at hg
        by_cases hrm : e.r = reason
        · have HRM := Lib.hid hrm
          have hrb : (e.r == reason) = true := by simpa using hrm
          clear hrm
          go_wp2_with (first
            | (go_at_call 51; refine (hg.out _ inferInstance).mono ?_; rintro e w' ⟨rfl, z, rfl⟩)
            | (at_builtin; refine wpList_append_own _ rfl _ _ 34 rfl W.heap.size 3 i0 (.int .i64 0) 1 8 Tryz.underlying34 Hi.out Hy0.out Hy1.out Hy2.out rfl (by decide) _ _ _ rfl (owns_up Hs.out (upI : Up x1.w _)) ⟨_, 0, none⟩ 1 1 [.int .i64 (k : Int)] rfl rfl ?a1 ?a2 ?a3 ?a4 ?a5 ?_))
          case a1 =>
            intro j u hj
            rcases j with _ | j
            · simp at hj; subst hj; simp [Addr.add, go_sem]
            · simp at hj
          case a2 =>
            intro u hu
            simp at hu
            subst hu; rfl
          case a3 => unfold maxLen; omega
          case a4 => omega
          case a5 => exact (upI : Up W _).size
          intro v' w1 hown' hgrow _
          have hu1 : Up W w1 := Up.grown (upI : Up W _) hgrow (owns_row Hs.out)
          obtain ⟨x2, rfl⟩ := hu1.mk
          have Hs' := Lib.hid hown'
          clear hown' hgrow hu1
          go_wp2_with fail
          go_roundw
          case rel => exact ⟨k + 1, by omega, by go_num, Lib.hid (by rw [Hst.out, whereL_snoc, if_pos HRM.out, List.length_append, intCells_snoc]; exact owns_up Hs'.out upI), mkI⟩
          case measure => simp [intOf]; omega
        · have HRM := Lib.hid hrm
          have hrb : (e.r == reason) = false := by simpa using hrm
          clear hrm
          go_wp2_with (first
            | (go_at_call 51; refine (hg.out _ inferInstance).mono ?_; rintro e w' ⟨rfl, z, rfl⟩))
          go_roundw
          case rel => exact ⟨k + 1, by omega, by go_num, Lib.hid (by rw [Hst.out, whereL_snoc, if_neg HRM.out, List.append_nil]; exact owns_up Hs.out upI), mkI⟩
          case measure => simp [intOf]; omega
      · have hg := Lib.hid (fun W' (h : UpI w W') => Hgno.out W' h (k : Int) (by omega) (by omega) (.inr (.inr (by have := Hlo.out; omega))))
        unfold Ev.val Ev.zero at hg
        have hst : keptUp E lo (k + 1) = keptUp E lo k := by rw [keptUp_low E lo (k + 1) (by omega), keptUp_low E lo k (by omega)]
        have Hst := Lib.hid hst
        clear hst
        go_wp2_with (first
          | (go_at_call 51; refine (hg.out _ inferInstance).mono ?_; rintro e w' ⟨rfl, z, rfl⟩))
        go_roundw
        case rel => exact ⟨k + 1, by omega, by go_num, Lib.hid (by rw [Hst.out]; exact owns_up Hs.out upI), mkI⟩
        case measure => simp [intOf]; omega
    · obtain rfl : k = N := by omega
      rw [Hend.out] at Hs
      go_wp2_with fail
      go_ret
      exact ⟨_, rfl, (IntRow.of_owns Hs.out).up upI, (upI : Up w _).mk⟩
end Go.Proofs.YtdebpdjkkblcfaaGreatDoor
