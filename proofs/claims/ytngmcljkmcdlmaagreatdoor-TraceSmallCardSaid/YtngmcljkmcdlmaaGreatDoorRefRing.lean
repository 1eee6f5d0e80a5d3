/- The reference's ring of layer 41: what New, Get, Count, Since and Where return; slices compared by a function; a slice cleared. The reference's ring of layer 41: events compared by a function; an event put. The reference's ring of layer 41: an event put that is taken. The reference's ring of layer 41: an event put behind others. -/
import Derived.Test.YtngmcljkmcdlmaaGreatDoorEqual
import Derived.Laws.OwnMore
import Derived.Deep.RegionHeld3
import Derived.Test.YtngmcljkmcdlmaaGreatDoorRefTr1
import Derived.Test.YtngmcljkmcdlmaaGreatDoorPExt
import Derived.Deep.RegionLaw
import Derived.Deep.RegionLawGrows
namespace Go.Ab
open Go.RowKit Go.Proofs.YtngmcljkmcdlmaaGreatDoor
theorem numbered_snoc2 : ∀ (l : List Ev) (n : Nat) (e : Ev), numbered n (l ++ [e]) = numbered n l ++ [(n + l.length, e)]
  | [], _, _ => rfl
  | x :: t, n, e => by
    rw [List.cons_append, numbered, numbered, numbered_snoc2 t, List.cons_append, List.length_cons, show n + 1 + t.length = n + (t.length + 1) by omega]
/-- The numbered events from one number up to another. -/
def keptUp (E : List Ev) (lo k : Nat) : List (Nat × Ev) := numbered lo ((E.take k).drop lo)
theorem keptUp_low (E : List Ev) (lo k : Nat) (h : k ≤ lo) : keptUp E lo k = [] := by
  unfold keptUp
  rw [List.drop_of_length_le (by rw [List.length_take]; omega)]
  rfl
theorem keptUp_step (E : List Ev) (lo k : Nat) (e : Ev) (he : E[k]? = some e) (h : lo ≤ k) : keptUp E lo (k + 1) = keptUp E lo k ++ [(k, e)] := by
  have hk : k < E.length := (List.getElem?_eq_some_iff.1 he).1
  have hl : (E.take k).length = k := by rw [List.length_take]; omega
  unfold keptUp
  rw [take_snoc E k e he, List.drop_append_of_le_length (by omega), numbered_snoc2, List.length_drop, hl, show lo + (k - lo) = k by omega]
theorem keptUp_end (E : List Ev) (n : Nat) : keptUp E (E.length - n) E.length = keptL E n := by
  unfold keptUp keptL
  rw [List.take_length, show E.length - min E.length n = E.length - n by omega]
theorem keptUp_length (E : List Ev) (lo k : Nat) : (keptUp E lo k).length ≤ k := by
  unfold keptUp; rw [numbered_length, List.length_drop, List.length_take]; omega
theorem zeroCells_one (z : Array Value) (n : Nat) (h : ∀ u ∈ z.toList, u.oneCell' = true) (hz : 0 < z.size) : ∀ u ∈ (Builtin.zeroCells z n).toList, u.oneCell' = true := by
  intro u hu
  simp only [Builtin.zeroCells, Array.toList_map, List.mem_map] at hu
  obtain ⟨i, _, rfl⟩ := hu
  have hlt : i % z.size < z.size := Nat.mod_lt _ hz
  rw [getElem!_pos z (i % z.size) hlt]
  exact h _ (by simp)
section
variable {P : Program} {w : World}
/-- An owned row cleared: its block alone may change. -/
theorem run_clear_own (base : Nat) (t ty e : TypeId) (i : TypeInfo) (z : Value) (size : Nat) (ht : P.underlying t = some (.slice e)) (hi : P.info? e = some i) (hz : i.zero = some z)
    (hzs : z.cells.size = size) (hsz : 0 < size) (h1 : ∀ u ∈ z.cells.toList, u.oneCell' = true) (v : Value) (n : Nat) (xs : List Value) (hown : w.ownsRow base e size v n xs) :
    ∃ w', (Builtin.clear_ #[t] ty #[v]).run P w = .ok (.tuple #[]) w' ∧ w.grownBy w' v.ownBlock := by
  rcases hown.2 with ⟨rfl, rfl⟩ | ⟨g, cap, cur, rfl, _, hg, hnc, _, hcs, _⟩
  · exact ⟨w, by simp [Builtin.clear_, run_underlying ht], ⟨rfl, rfl, rfl, Nat.le_refl _, fun _ _ _ => rfl⟩⟩
  · by_cases hn : n = 0
    · subst hn
      exact ⟨w, by simp [Builtin.clear_, run_underlying ht], ⟨rfl, rfl, rfl, Nat.le_refl _, fun _ _ _ => rfl⟩⟩
    · have hlen : (Builtin.zeroCells z.cells n).toList.length = n * size := by rw [Array.length_toList, size_zeroCells, hzs]
      have hfit : 0 + 0 + (Builtin.zeroCells z.cells n).toList.length ≤ cur.size := by
        rw [hlen, hcs, Nat.zero_add]; exact Nat.mul_le_mul_right _ hnc
      have hr := run_storeCells_at (P := P) g 0 e (Builtin.zeroCells z.cells n).toList 0 cur w hg hfit (zeroCells_one _ _ h1 (by omega))
      generalize (List.take (0 + 0) cur.toList ++ (Builtin.zeroCells z.cells n).toList ++ List.drop (0 + 0 + (Builtin.zeroCells z.cells n).toList.length) cur.toList).toArray = X at hr
      exact ⟨w.setRow g X, by simp [Builtin.clear_, run_underlying ht, zeroValue, typeInfo, hi, hz, hn, hr], ⟨rfl, rfl, rfl, by simp, fun k _ hk => setRow_other w g k _ (fun e => hk (by simp [Value.ownBlock, e]))⟩⟩
theorem wpList_clear_own {ops : Array Oper} {rest : List Oper} {o : Oper} {a : Act} {Q : Exit → Act → World → Prop} (hgd : o.guard = none) (s : Operand) (t : TypeId)
    (ho : o.op = .call { callee := .builtin .clear, args := #[s], argTypes := #[t] })
    (base : Nat) (e : TypeId) (i : TypeInfo) (z : Value) (size : Nat) (ht : P.underlying t = some (.slice e)) (hi : P.info? e = some i) (hz : i.zero = some z)
    (hzs : z.cells.size = size) (hsz : 0 < size) (h1 : ∀ u ∈ z.cells.toList, u.oneCell' = true) (v : Value) (n : Nat) (xs : List Value) (hs : a.eval s = v) (hown : w.ownsRow base e size v n xs)
    (h : ∀ w', w.grownBy w' v.ownBlock → wpList P ops Q rest (a.put o.dst (.tuple #[])) w') : wpList P ops Q (o :: rest) a w := by
  refine wpList_plain hgd fun _ hK => ?_
  obtain ⟨w', hr, hg⟩ := run_clear_own (P := P) base t o.type e i z size ht hi hz hzs hsz h1 v n xs hown
  unfold Oper.wp execOp
  simp only [ho, resolve, invoke, builtin, Sem.run_bind, Sem.run_pure, Result.andThen_ok, List.map_toArray, List.map_cons, List.map_nil, hs, hr]
  exact hK _ _ (h w' hg)
end
end Go.Ab
namespace Go.Proofs.YtngmcljkmcdlmaaGreatDoor
open Go.RowKit Go.Ab
theorem infoREvent : (Tryz.prog.info? 34).map (fun i => (i.zero, i.size, i.bytes)) = some (some Ev.zero.val, 8, 32) := by kernel_rfl
set_option maxHeartbeats 4000000 in
set_option maxRecDepth 100000 in
theorem rring_new (size : Nat) (w : World) (h0 : 1 ≤ size) (h1 : size ≤ 4096) :
    Gives Tryz.prog 28 #[.int .i64 (size : Int)] w (.tuple #[.agg #[.int .i64 (size : Int), .slice none 0 0], .int .i64 0]) := by
  unfold Gives
  go_enter Tryz.func28, Tryz.ntmps28
  go_wp2_with fail
  refine bodyPost_ret (v := Value.tuple #[.agg #[.int .i64 (size : Int), .slice none 0 0], .int .i64 0]) (by simp [results, Tryz.results28, go_sem]) rfl ?_
  exact ⟨rfl, mkI⟩
set_option maxHeartbeats 4000000 in
set_option maxRecDepth 100000 in
theorem rring_new_no (n : Int) (w : World) (h : n < 1 ∨ 4096 < n) : Gives Tryz.prog 28 #[.int .i64 n] w (.tuple #[.agg #[.int .i64 0, .slice none 0 0], .int .i64 2]) := by
  unfold Gives
  rcases h with h | h
  all_goals
    go_enter Tryz.func28, Tryz.ntmps28
    go_wp2_with fail
    refine bodyPost_ret (v := Value.tuple #[.agg #[.int .i64 0, .slice none 0 0], .int .i64 2]) (by simp [results, Tryz.results28, go_sem]) rfl ?_
    exact ⟨rfl, mkI⟩
set_option maxHeartbeats 8000000 in
set_option maxRecDepth 100000 in
theorem rget_yes (w : World) (v : Value) (size : Nat) (E : List Ev) (hv : EvRow w v E) (hl : E.length ≤ 1000000) (s1 : size ≤ 4096) (n : Nat) (e : Ev) (he : E[n]? = some e) (hk : E.length ≤ n + size) :
    Gives Tryz.prog 52 #[.agg #[.int .i64 (size : Int), v], .int .i64 (n : Int)] w (.tuple #[e.val, .bool true]) := by
  have hn : n < E.length := (List.getElem?_eq_some_iff.1 he).1
  obtain ⟨p, cap, rfl, hc⟩ := hv
  obtain ⟨b, o, rfl, hb, hc⟩ := hc n hn
  simp only [he, Option.bind_some] at hc
  have c0 := hc 0 _ rfl; have c1 := hc 1 _ rfl; have c2 := hc 2 _ rfl; have c3 := hc 3 _ rfl; have c4 := hc 4 _ rfl; have c5 := hc 5 _ rfl; have c6 := hc 6 _ rfl; have c7 := hc 7 _ rfl
  rw [Nat.add_zero] at c0
  haveI : LtSize b w := ⟨hb⟩
  obtain ⟨N, hN⟩ : ∃ N, E.length = N := ⟨_, rfl⟩
  rw [hN] at hn hl hk ⊢
  have q0 : (0 : Int) ≤ (n : Int) := by omega
  have q1 : (n : Int) < (N : Int) := by omega
  have q2 : (N : Int) ≤ 1000000 := by omega
  have q3 : (N : Int) - (n : Int) ≤ (size : Int) := by omega
  have q4 : (size : Int) ≤ 4096 := by omega
  clear hc he hN hb
  unfold Gives Ev.val
  go_enter Tryz.func52, Tryz.ntmps52
  go_wp2_with fail
  all_goals first | (exfalso; omega) | skip
  refine bodyPost_ret (v := Value.tuple #[.agg #[.int .i64 e.n, .int .u8 e.sd, .int .u8 e.r, .int .u8 e.pr, .int .u32 e.s, .int .u32 e.d, .int .u16 e.sp, .int .u16 e.dp], .bool true]) (by simp [results, Tryz.results52, go_sem]) rfl ?_
  exact ⟨rfl, mkI⟩
set_option maxHeartbeats 8000000 in
set_option maxRecDepth 100000 in
theorem rget_no (w : World) (v : Value) (size : Nat) (E : List Ev) (hv : EvRow w v E) (hl : E.length ≤ 1000000) (s1 : size ≤ 4096) (n : Int) (n0 : -9223372036854775808 ≤ n) (n1 : n ≤ 9223372036854775807) (h : n < 0 ∨ (E.length : Int) ≤ n ∨ (size : Int) < (E.length : Int) - n) :
    Gives Tryz.prog 52 #[.agg #[.int .i64 (size : Int), v], .int .i64 n] w (.tuple #[Ev.zero.val, .bool false]) := by
  obtain ⟨p, cap, rfl, _⟩ := hv
  obtain ⟨N, hN⟩ : ∃ N, E.length = N := ⟨_, rfl⟩
  rw [hN] at hl h ⊢
  have q2 : (N : Int) ≤ 1000000 := by omega
  have q5 : (0 : Int) ≤ (N : Int) := by omega
  have q4 : (size : Int) ≤ 4096 := by omega
  have q6 : (0 : Int) ≤ (size : Int) := by omega
  clear hN
  unfold Gives Ev.val Ev.zero
  by_cases ha : n < 0
  · clear h
    go_enter Tryz.func52, Tryz.ntmps52
    go_wp2_with fail
    all_goals first | (exfalso; omega) | skip
    refine bodyPost_ret (v := Value.tuple #[.agg #[.int .i64 0, .int .u8 0, .int .u8 0, .int .u8 0, .int .u32 0, .int .u32 0, .int .u16 0, .int .u16 0], .bool false]) (by simp [results, Tryz.results52, go_sem]) rfl ?_
    exact ⟨rfl, mkI⟩
  · by_cases hb : (N : Int) ≤ n
    · have ha' : 0 ≤ n := by omega
      clear h
      go_enter Tryz.func52, Tryz.ntmps52
      go_wp2_with fail
      all_goals first | (exfalso; omega) | skip
      refine bodyPost_ret (v := Value.tuple #[.agg #[.int .i64 0, .int .u8 0, .int .u8 0, .int .u8 0, .int .u32 0, .int .u32 0, .int .u16 0, .int .u16 0], .bool false]) (by simp [results, Tryz.results52, go_sem]) rfl ?_
      exact ⟨rfl, mkI⟩
    · have ha' : 0 ≤ n := by omega
      have hb' : n < (N : Int) := by omega
      have hc : (size : Int) < (N : Int) - n := by omega
      clear h ha hb
      go_enter Tryz.func52, Tryz.ntmps52
      go_wp2_with fail
      all_goals first | (exfalso; omega) | skip
      refine bodyPost_ret (v := Value.tuple #[.agg #[.int .i64 0, .int .u8 0, .int .u8 0, .int .u8 0, .int .u32 0, .int .u32 0, .int .u16 0, .int .u16 0], .bool false]) (by simp [results, Tryz.results52, go_sem]) rfl ?_
      exact ⟨rfl, mkI⟩
set_option maxHeartbeats 8000000 in
set_option maxRecDepth 100000 in
theorem rcount_any (w : World) (v : Value) (size : Int) (E : List Ev) (hv : EvRow w v E) (hl : E.length ≤ 1000000) (r : Nat) :
    Gives Tryz.prog 57 #[.agg #[.int .i64 size, v], .int .u8 (r : Int)] w (.int .i64 (countR E r : Int)) := by
  obtain ⟨p, cap, rfl, hc⟩ := hv
  obtain ⟨N, hN⟩ : ∃ N, E.length = N := ⟨_, rfl⟩
  rw [hN] at hl hc ⊢
  have HN := Lib.hid hN
  clear hN
  unfold Gives
  go_enter Tryz.func57, Tryz.ntmps57
  go_wp2_with fail
  have r1 : (w.alloc (.cells #[.int .i64 size, .slice p (N : Int).toNat cap] 70)).cell? ⟨w.heap.size, 1, none⟩ = some (.slice p (N : Int).toNat cap) := by simp [go_sem]
  have uw : UpI w (w.alloc (.cells #[.int .i64 size, .slice p (N : Int).toNat cap] 70)) := inferInstance
  simp only [Int.toNat_natCast] at r1 uw
  generalize w.alloc (.cells #[.int .i64 size, .slice p N cap] 70) = W at *
  obtain ⟨B, hB⟩ : ∃ B, w.heap.size = B := ⟨_, rfl⟩
  rw [hB] at r1 ⊢
  clear hB
  haveI : LtSize B W := ⟨cell_lt' r1⟩
  go_loopw [5, 6] (fun cv i wr => ∃ (k : Nat) (c : Int), k ≤ N ∧ i = .int .i64 (k : Int) ∧ cv = .int .i64 c ∧ Hid (c = (countR (E.take k) r : Int)) ∧ 0 ≤ c ∧ c ≤ (k : Int) ∧ ∃ x : Ext W, wr = x.w) (fun _ i _ => N - (intOf i).toNat)
  case atStart => exact ⟨0, 0, by omega, rfl, rfl, Lib.hid rfl, by omega, by omega, mkI⟩
  case round =>
    obtain ⟨k, c, hk, rfl, rfl, Hc, c0, c1, x, rfl⟩ := hrel
    by_cases hlt : k < N
    · have hlt' : (k : Int) < (N : Int) := by omega
      obtain ⟨b, o, rfl, hb, hcc⟩ := hc k hlt
      obtain ⟨e, he⟩ : ∃ e, E[k]? = some e := ⟨_, List.getElem?_eq_getElem (by rw [HN.out]; exact hlt)⟩
      simp only [he, Option.bind_some] at hcc
      have q2 := uw.up.cell_some' (hcc 2 _ rfl)
      haveI : LtSize b W := ⟨Nat.lt_of_lt_of_le hb uw.up.size⟩
      have T1 := Lib.hid (take_snoc E k e he)
      clear hcc he
      by_cases her : e.r = (r : Int)
      · have hB : (e.r == (r : Int)) = true := by simpa using her
        have HE := Lib.hid her
        clear her
        go_wp2_with fail
        go_roundw
        case rel => exact ⟨k + 1, c + 1, by omega, by go_num, rfl, Lib.hid (by rw [T1.out, countR_snoc, if_pos HE.out, Hc.out]; rfl), by omega, by omega, mkI⟩
        case measure => simp [intOf]; omega
      · have hB : (e.r == (r : Int)) = false := by simpa using her
        have HE := Lib.hid her
        clear her
        go_wp2_with fail
        go_roundw
        case rel => exact ⟨k + 1, c, by omega, by go_num, rfl, Lib.hid (by rw [T1.out, countR_snoc, if_neg HE.out, Hc.out]; rfl), by omega, by omega, mkI⟩
        case measure => simp [intOf]; omega
    · obtain rfl : k = N := by omega
      have HQ := Lib.hid (show c = (countR E r : Int) by rw [Hc.out, ← HN.out, List.take_length])
      go_wp2_with fail
      go_ret
      exact ⟨ret_int HQ.out, mkI⟩
set_option maxHeartbeats 16000000 in
set_option maxRecDepth 100000 in
theorem rsince_any (w : World) (v : Value) (size : Nat) (E : List Ev) (hv : EvRow w v E) (hl : E.length ≤ 1000000) (s1 : size ≤ 4096) (number : Int) :
    Calls Tryz.prog 53 #[.agg #[.int .i64 (size : Int), v], .int .i64 number] w fun e w' =>
      ∃ u, e = .returned u ∧ EvRow w' u (sinceL number (keptL E size)) ∧ ∃ x : Ext w, w' = x.w := by
  have hget := fun (W : World) (h : UpI w W) n e he hk => rget_yes W v size E (hv.up h.up) hl s1 n e he hk
  have hgno := fun (W : World) (h : UpI w W) n n0 n1 hk => rget_no W v size E (hv.up h.up) hl s1 n n0 n1 hk
  obtain ⟨i0, hi, hy0, hy1, hy2⟩ := info_parts infoREvent
  have Hi := Lib.hid hi; have Hy0 := Lib.hid hy0; have Hy1 := Lib.hid hy1; have Hy2 := Lib.hid hy2
  clear hi hy0 hy1 hy2
  obtain ⟨p, cap, rfl, hc⟩ := hv
  obtain ⟨N, hN⟩ : ∃ N, E.length = N := ⟨_, rfl⟩
  obtain ⟨lo, hlo⟩ : ∃ lo : Nat, lo = N - size := ⟨_, rfl⟩
  have Hend := Lib.hid (show keptUp E lo N = keptL E size by rw [← keptUp_end, hN, ← hlo])
  have HN := Lib.hid hN
  have Hlo := Lib.hid hlo
  rw [hN] at hl hc hget hgno ⊢
  have Hget := Lib.hid hget
  have Hgno := Lib.hid hgno
  clear hN hlo hget hgno hc
  go_enter Tryz.func53, Tryz.ntmps53
  go_wp2_with fail
  have r0 : (w.alloc (.cells #[.int .i64 (size : Int), .slice p (N : Int).toNat cap] 70)).cell? ⟨w.heap.size, 0, none⟩ = some (.int .i64 (size : Int)) := by simp [go_sem]
  have r1 : (w.alloc (.cells #[.int .i64 (size : Int), .slice p (N : Int).toNat cap] 70)).cell? ⟨w.heap.size, 1, none⟩ = some (.slice p (N : Int).toNat cap) := by simp [go_sem]
  have uw : UpI w (w.alloc (.cells #[.int .i64 (size : Int), .slice p (N : Int).toNat cap] 70)) := inferInstance
  simp only [Int.toNat_natCast] at r0 r1 uw
  generalize w.alloc (.cells #[.int .i64 (size : Int), .slice p N cap] 70) = W at *
  obtain ⟨B, hB⟩ : ∃ B, w.heap.size = B := ⟨_, rfl⟩
  rw [hB] at r0 r1 ⊢
  clear hB
  haveI : LtSize B W := ⟨cell_lt' r1⟩
  go_loopw [5, 6] (fun out i wr => ∃ k : Nat, k ≤ N ∧ i = .int .i64 (k : Int) ∧ Hid (wr.ownsRow W.heap.size 34 8 out (sinceL number (keptUp E lo k)).length (evCells (sinceL number (keptUp E lo k)))) ∧ ∃ x : Ext W, wr = x.w) (fun _ i _ => N - (intOf i).toNat)
  case atStart => exact ⟨0, Nat.zero_le _, rfl, Lib.hid (by rw [keptUp_low _ _ _ (Nat.zero_le _)]; exact World.ownsRow_nil _ _ _ _), mkI⟩
  case round =>
    obtain ⟨k, hk, rfl, Hs, x1, rfl⟩ := hrel
    have uwx : UpI w x1.w := ⟨uw.up.ext x1⟩
    by_cases hlt : k < N
    · have hlt' : (k : Int) < (N : Int) := by omega
      obtain ⟨e, he⟩ : ∃ e, E[k]? = some e := ⟨_, List.getElem?_eq_getElem (by rw [HN.out]; exact hlt)⟩
      have HE := Lib.hid he
      have hsl := Nat.le_trans (sinceL_length number (keptUp E lo k)) (keptUp_length E lo k)
      clear he
      by_cases hge : lo ≤ k
      · have Hst := Lib.hid (keptUp_step E lo k e HE.out hge)
        have hg := Lib.hid (fun W' (h : UpI w W') => Hget.out W' h k e HE.out (by have := Hlo.out; omega))
        unfold Ev.val at hg
        by_cases hnm : number ≤ (k : Int)
        · have HNM := Lib.hid hnm
          go_wp2_with (first
            | (go_at_call 52; refine (hg.out _ inferInstance).mono ?_; rintro e w' ⟨rfl, z, rfl⟩)
            | (at_builtin; refine wpList_append_own _ rfl _ _ 68 rfl W.heap.size 34 i0 Ev.zero.val 8 32 Tryz.underlying68 Hi.out Hy0.out Hy1.out Hy2.out rfl (by decide) _ _ _ rfl (owns_up Hs.out (upI : Up x1.w _)) ⟨_, 0, none⟩ 1 1 e.cells rfl rfl ?a1 ?a2 ?a3 ?a4 ?a5 ?_))
          case a1 =>
            intro j u hj
            have hj8 : j < 8 := (List.getElem?_eq_some_iff.1 hj).1
            rcases (by omega : j = 0 ∨ j = 1 ∨ j = 2 ∨ j = 3 ∨ j = 4 ∨ j = 5 ∨ j = 6 ∨ j = 7) with rfl | rfl | rfl | rfl | rfl | rfl | rfl | rfl
            all_goals (simp [Ev.cells] at hj; subst hj; simp [Addr.add, go_sem])
          case a2 =>
            intro u hu
            simp [Ev.cells] at hu
            rcases hu with rfl | rfl | rfl | rfl | rfl | rfl | rfl | rfl <;> rfl
          case a3 => unfold maxLen; omega
          case a4 => omega
          case a5 => exact (upI : Up W _).size
          intro v' w1 hown' hgrow _
          have hu1 : Up W w1 := Up.grown (upI : Up W _) hgrow (owns_row Hs.out)
          obtain ⟨x2, rfl⟩ := hu1.mk
          have Hs' := Lib.hid hown'
          clear hown' hgrow hu1
          go_wp2_with fail
          go_roundw
          case rel => exact ⟨k + 1, by omega, by go_num, Lib.hid (by rw [Hst.out, sinceL_snoc, if_pos HNM.out, List.length_append, evCells_snoc]; exact owns_up Hs'.out upI), mkI⟩
          case measure => simp [intOf]; omega
        · have hnb : (k : Int) < number := by omega
          have HNM := Lib.hid hnm
          clear hnm
          go_wp2_with (first
            | (go_at_call 52; refine (hg.out _ inferInstance).mono ?_; rintro e w' ⟨rfl, z, rfl⟩))
          go_roundw
          case rel => exact ⟨k + 1, by omega, by go_num, Lib.hid (by rw [Hst.out, sinceL_snoc, if_neg (by have := HNM.out; omega), List.append_nil]; exact owns_up Hs.out upI), mkI⟩
          case measure => simp [intOf]; omega
      · have hg := Lib.hid (fun W' (h : UpI w W') => Hgno.out W' h (k : Int) (by omega) (by omega) (.inr (.inr (by have := Hlo.out; omega))))
        unfold Ev.val Ev.zero at hg
        have hst : keptUp E lo (k + 1) = keptUp E lo k := by rw [keptUp_low E lo (k + 1) (by omega), keptUp_low E lo k (by omega)]
        have Hst := Lib.hid hst
        clear hst
        go_wp2_with (first
          | (go_at_call 52; refine (hg.out _ inferInstance).mono ?_; rintro e w' ⟨rfl, z, rfl⟩))
        go_roundw
        case rel => exact ⟨k + 1, by omega, by go_num, Lib.hid (by rw [Hst.out]; exact owns_up Hs.out upI), mkI⟩
        case measure => simp [intOf]; omega
    · obtain rfl : k = N := by omega
      rw [Hend.out] at Hs
      go_wp2_with fail
      go_ret
      exact ⟨_, rfl, (EvRow.of_owns Hs.out).up upI, (upI : Up w _).mk⟩
set_option maxHeartbeats 16000000 in
set_option maxRecDepth 100000 in
theorem rwhere_any (w : World) (v : Value) (size : Nat) (E : List Ev) (hv : EvRow w v E) (hl : E.length ≤ 1000000) (s1 : size ≤ 4096) (reason : Int) :
    Calls Tryz.prog 56 #[.agg #[.int .i64 (size : Int), v], .int .u8 reason] w fun e w' =>
      ∃ u, e = .returned u ∧ IntRow w' u ((whereL reason (keptL E size)).map fun n : Nat => (n : Int)) ∧ ∃ x : Ext w, w' = x.w := by
  have hget := fun (W : World) (h : UpI w W) n e he hk => rget_yes W v size E (hv.up h.up) hl s1 n e he hk
  have hgno := fun (W : World) (h : UpI w W) n n0 n1 hk => rget_no W v size E (hv.up h.up) hl s1 n n0 n1 hk
  obtain ⟨i0, hi, hy0, hy1, hy2⟩ := info_parts infoInt
  have Hi := Lib.hid hi; have Hy0 := Lib.hid hy0; have Hy1 := Lib.hid hy1; have Hy2 := Lib.hid hy2
  clear hi hy0 hy1 hy2
  obtain ⟨p, cap, rfl, hc⟩ := hv
  obtain ⟨N, hN⟩ : ∃ N, E.length = N := ⟨_, rfl⟩
  obtain ⟨lo, hlo⟩ : ∃ lo : Nat, lo = N - size := ⟨_, rfl⟩
  have Hend := Lib.hid (show keptUp E lo N = keptL E size by rw [← keptUp_end, hN, ← hlo])
  have HN := Lib.hid hN
  have Hlo := Lib.hid hlo
  rw [hN] at hl hc hget hgno ⊢
  have Hget := Lib.hid hget
  have Hgno := Lib.hid hgno
  clear hN hlo hget hgno hc
  go_enter Tryz.func56, Tryz.ntmps56
  go_wp2_with fail
  have r0 : (w.alloc (.cells #[.int .i64 (size : Int), .slice p (N : Int).toNat cap] 70)).cell? ⟨w.heap.size, 0, none⟩ = some (.int .i64 (size : Int)) := by simp [go_sem]
  have r1 : (w.alloc (.cells #[.int .i64 (size : Int), .slice p (N : Int).toNat cap] 70)).cell? ⟨w.heap.size, 1, none⟩ = some (.slice p (N : Int).toNat cap) := by simp [go_sem]
  have uw : UpI w (w.alloc (.cells #[.int .i64 (size : Int), .slice p (N : Int).toNat cap] 70)) := inferInstance
  simp only [Int.toNat_natCast] at r0 r1 uw
  generalize w.alloc (.cells #[.int .i64 (size : Int), .slice p N cap] 70) = W at *
  obtain ⟨B, hB⟩ : ∃ B, w.heap.size = B := ⟨_, rfl⟩
  rw [hB] at r0 r1 ⊢
  clear hB
  haveI : LtSize B W := ⟨cell_lt' r1⟩
  go_loopw [5, 6] (fun out i wr => ∃ k : Nat, k ≤ N ∧ i = .int .i64 (k : Int) ∧ Hid (wr.ownsRow W.heap.size 3 1 out (whereL reason (keptUp E lo k)).length (intCells (whereL reason (keptUp E lo k)))) ∧ ∃ x : Ext W, wr = x.w) (fun _ i _ => N - (intOf i).toNat)
  case atStart => exact ⟨0, Nat.zero_le _, rfl, Lib.hid (by rw [keptUp_low _ _ _ (Nat.zero_le _)]; exact World.ownsRow_nil _ _ _ _), mkI⟩
  case round =>
    obtain ⟨k, hk, rfl, Hs, x1, rfl⟩ := hrel
    have uwx : UpI w x1.w := ⟨uw.up.ext x1⟩
    by_cases hlt : k < N
    · have hlt' : (k : Int) < (N : Int) := by omega
      obtain ⟨e, he⟩ : ∃ e, E[k]? = some e := ⟨_, List.getElem?_eq_getElem (by rw [HN.out]; exact hlt)⟩
      have HE := Lib.hid he
      have hsl := Nat.le_trans (whereL_length reason (keptUp E lo k)) (keptUp_length E lo k)
      clear he
      by_cases hge : lo ≤ k
      · have Hst := Lib.hid (keptUp_step E lo k e HE.out hge)
        have hg := Lib.hid (fun W' (h : UpI w W') => Hget.out W' h k e HE.out (by have := Hlo.out; omega))
        unfold Ev.val at hg
        by_cases hrm : e.r = reason
        · have HRM := Lib.hid hrm
          have hrb : (e.r == reason) = true := by simpa using hrm
          clear hrm
          go_wp2_with (first
            | (go_at_call 52; refine (hg.out _ inferInstance).mono ?_; rintro e w' ⟨rfl, z, rfl⟩)
            | (at_builtin; refine wpList_append_own _ rfl _ _ 30 rfl W.heap.size 3 i0 (.int .i64 0) 1 8 Tryz.underlying30 Hi.out Hy0.out Hy1.out Hy2.out rfl (by decide) _ _ _ rfl (owns_up Hs.out (upI : Up x1.w _)) ⟨_, 0, none⟩ 1 1 [.int .i64 (k : Int)] rfl rfl ?a1 ?a2 ?a3 ?a4 ?a5 ?_))
          case a1 =>
            intro j u hj
            rcases j with _ | j
            · simp at hj; subst hj; simp [Addr.add, go_sem]
            · simp at hj
          case a2 =>
            intro u hu
            simp at hu
            subst hu; rfl
          case a3 => unfold maxLen; omega
          case a4 => omega
          case a5 => exact (upI : Up W _).size
          intro v' w1 hown' hgrow _
          have hu1 : Up W w1 := Up.grown (upI : Up W _) hgrow (owns_row Hs.out)
          obtain ⟨x2, rfl⟩ := hu1.mk
          have Hs' := Lib.hid hown'
          clear hown' hgrow hu1
          go_wp2_with fail
          go_roundw
          case rel => exact ⟨k + 1, by omega, by go_num, Lib.hid (by rw [Hst.out, whereL_snoc, if_pos HRM.out, List.length_append, intCells_snoc]; exact owns_up Hs'.out upI), mkI⟩
          case measure => simp [intOf]; omega
        · have HRM := Lib.hid hrm
          have hrb : (e.r == reason) = false := by simpa using hrm
          clear hrm
          go_wp2_with (first
            | (go_at_call 52; refine (hg.out _ inferInstance).mono ?_; rintro e w' ⟨rfl, z, rfl⟩))
          go_roundw
          case rel => exact ⟨k + 1, by omega, by go_num, Lib.hid (by rw [Hst.out, whereL_snoc, if_neg HRM.out, List.append_nil]; exact owns_up Hs.out upI), mkI⟩
          case measure => simp [intOf]; omega
      · have hg := Lib.hid (fun W' (h : UpI w W') => Hgno.out W' h (k : Int) (by omega) (by omega) (.inr (.inr (by have := Hlo.out; omega))))
        unfold Ev.val Ev.zero at hg
        have hst : keptUp E lo (k + 1) = keptUp E lo k := by rw [keptUp_low E lo (k + 1) (by omega), keptUp_low E lo k (by omega)]
        have Hst := Lib.hid hst
        clear hst
        go_wp2_with (first
          | (go_at_call 52; refine (hg.out _ inferInstance).mono ?_; rintro e w' ⟨rfl, z, rfl⟩))
        go_roundw
        case rel => exact ⟨k + 1, by omega, by go_num, Lib.hid (by rw [Hst.out]; exact owns_up Hs.out upI), mkI⟩
        case measure => simp [intOf]; omega
    · obtain rfl : k = N := by omega
      rw [Hend.out] at Hs
      go_wp2_with fail
      go_ret
      exact ⟨_, rfl, (IntRow.of_owns Hs.out).up upI, (upI : Up w _).mk⟩
end Go.Proofs.YtngmcljkmcdlmaaGreatDoor
namespace Go.Proofs.YtngmcljkmcdlmaaGreatDoor
open Go.RowKit Go.Ab
set_option maxHeartbeats 4000000 in
theorem revent_eq (w : World) (n1 sd1 r1 p1 s1 d1 sp1 dp1 n2 sd2 r2 p2 s2 d2 sp2 dp2 : Int) :
    (Op.equalIn 10000 34 (.agg #[.int .i64 n1, .int .u8 sd1, .int .u8 r1, .int .u8 p1, .int .u32 s1, .int .u32 d1, .int .u16 sp1, .int .u16 dp1]) (.agg #[.int .i64 n2, .int .u8 sd2, .int .u8 r2, .int .u8 p2, .int .u32 s2, .int .u32 d2, .int .u16 sp2, .int .u16 dp2])).run Tryz.prog w = .ok (evB n1 sd1 r1 p1 s1 d1 sp1 dp1 n2 sd2 r2 p2 s2 d2 sp2 dp2) w := by
  unfold evB
  cases h1 : (n1 == n2) with
  | false => simp [go_sem, h1]
  | true =>
    cases h2 : (sd1 == sd2) with
    | false => simp [go_sem, h1, h2]
    | true =>
      cases h3 : (r1 == r2) with
      | false => simp [go_sem, h1, h2, h3]
      | true =>
        cases h4 : (p1 == p2) with
        | false => simp [go_sem, h1, h2, h3, h4]
        | true =>
          cases h5 : (s1 == s2) with
          | false => simp [go_sem, h1, h2, h3, h4, h5]
          | true =>
            cases h6 : (d1 == d2) with
            | false => simp [go_sem, h1, h2, h3, h4, h5, h6]
            | true =>
              cases h7 : (sp1 == sp2) with
              | false => simp [go_sem, h1, h2, h3, h4, h5, h6, h7]
              | true => cases h8 : (dp1 == dp2) <;> simp [go_sem, h1, h2, h3, h4, h5, h6, h7, h8]
attribute [local go_sem high] revent_eq
set_option maxHeartbeats 4000000 in
set_option maxRecDepth 100000 in
theorem same_one (a b : Ev) (w : World) : Gives Tryz.prog 78 #[a.val, b.val] w (.bool (decide (a = b))) := by
  rw [← evB_eq]
  unfold Gives Ev.val
  go_enter Tryz.func78, Tryz.ntmps78
  go_wp2_with fail
  go_ret
  exact ⟨rfl, mkI⟩
set_option maxHeartbeats 16000000 in
set_option maxRecDepth 100000 in
theorem equal_fn (w : World) (va vb : Value) (la lb : List Ev) (ha : EvRow w va la) (hb : EvRow w vb lb) (hl : la.length ≤ 1000000) :
    Gives Tryz.prog 77 #[va, vb, .func (.func 78) #[] #[]] w (.bool (decide (la = lb))) := by
  obtain ⟨pa, ca, rfl, ha⟩ := ha
  obtain ⟨pb, cb, rfl, hb⟩ := hb
  unfold Gives
  by_cases hlen : la.length = lb.length
  · rw [← hlen]
    obtain ⟨N, hN⟩ : ∃ N, la.length = N := ⟨_, rfl⟩
    have HL := Lib.hid hlen
    rw [← hlen] at hb
    rw [hN] at ha hb hl ⊢
    have HN := Lib.hid hN
    clear hN hlen
    go_enter Tryz.func77, Tryz.ntmps77
    go_wp2_with fail
    go_loopw [17] (fun i wr => ∃ k : Nat, k ≤ N ∧ i = .int .i64 (k : Int) ∧ Hid (la.take k = lb.take k) ∧ ∃ x : Ext w, wr = x.w) (fun i _ => N - (intOf i).toNat)
    case atStart => exact ⟨0, by omega, rfl, Lib.hid rfl, (Up.refl w).mk⟩
    case round =>
      obtain ⟨k, hk, rfl, Hk, x, rfl⟩ := hrel
      by_cases hlt : k < N
      · have hlt' : (k : Int) < (N : Int) := by omega
        obtain ⟨b, o, rfl, hb1, hc1⟩ := ha k hlt
        obtain ⟨b2, o2, rfl, hb2, hc2⟩ := hb k hlt
        obtain ⟨e, he⟩ : ∃ e, la[k]? = some e := ⟨_, List.getElem?_eq_getElem (by rw [HN.out]; exact hlt)⟩
        obtain ⟨e2, he2⟩ : ∃ e, lb[k]? = some e := ⟨_, List.getElem?_eq_getElem (by rw [← HL.out, HN.out]; exact hlt)⟩
        rw [he] at hc1
        rw [he2] at hc2
        have a0 := hc1 0 _ rfl; have a1 := hc1 1 _ rfl; have a2 := hc1 2 _ rfl; have a3 := hc1 3 _ rfl; have a4 := hc1 4 _ rfl; have a5 := hc1 5 _ rfl; have a6 := hc1 6 _ rfl; have a7 := hc1 7 _ rfl
        have q0 := hc2 0 _ rfl; have q1 := hc2 1 _ rfl; have q2 := hc2 2 _ rfl; have q3 := hc2 3 _ rfl; have q4 := hc2 4 _ rfl; have q5 := hc2 5 _ rfl; have q6 := hc2 6 _ rfl; have q7 := hc2 7 _ rfl
        rw [Nat.add_zero] at a0 q0
        have T1 := Lib.hid (take_snoc la k e he)
        have T2 := Lib.hid (take_snoc lb k e2 he2)
        have hso := fun w => same_one e e2 w
        unfold Ev.val at hso
        clear hc1 hc2 ha hb
        haveI : LtSize b w := ⟨hb1⟩
        haveI : LtSize b2 w := ⟨hb2⟩
        by_cases hee : e = e2
        · have HQ := Lib.hid hee
          have hso' : ∀ w, Gives Tryz.prog 78 #[e.val, e2.val] w (.bool true) := fun w => (same_one e e2 w).cast (by rw [decide_eq_true hee])
          unfold Ev.val at hso'
          clear hee he he2 hso
          go_wp2_with (first
            | (go_at_call 78; refine (hso' _).mono ?_; rintro e w' ⟨rfl, z, rfl⟩))
          go_roundw
          case rel => exact ⟨k + 1, by omega, by go_num, Lib.hid (by rw [T1.out, T2.out, Hk.out, HQ.out]), mkI⟩
          case measure => simp [intOf]; omega
        · have HQ := Lib.hid (show ¬ la = lb from fun h => hee (by rw [h, he2] at he; exact (Option.some.inj he).symm))
          have hso' : ∀ w, Gives Tryz.prog 78 #[e.val, e2.val] w (.bool false) := fun w => (same_one e e2 w).cast (by rw [decide_eq_false hee])
          unfold Ev.val at hso'
          clear hee he he2 hso
          go_wp2_with (first
            | (go_at_call 78; refine (hso' _).mono ?_; rintro e w' ⟨rfl, z, rfl⟩))
          go_ret
          exact ⟨ret_bool (decide_eq_false HQ.out).symm, mkI⟩
      · obtain rfl : k = N := by omega
        have HQ := Lib.hid (show la = lb from list_eq_take la lb HL.out (by rw [HN.out]; exact Hk.out))
        go_wp2_with fail
        go_ret
        exact ⟨ret_bool (decide_eq_true HQ.out).symm, mkI⟩
  · have HQ := Lib.hid (show ¬ la = lb from fun h => hlen (by rw [h]))
    have hne : ((la.length : Int) != (lb.length : Int)) = true := by simp; omega
    clear ha hb
    go_enter Tryz.func77, Tryz.ntmps77
    go_wp2_with fail
    go_ret
    exact ⟨ret_bool (decide_eq_false HQ.out).symm, mkI⟩
set_option maxHeartbeats 4000000 in
theorem same_any (w : World) (va vb : Value) (la lb : List Ev) (ha : EvRow w va la) (hb : EvRow w vb lb) (hl : la.length ≤ 1000000) :
    Gives Tryz.prog 54 #[va, vb] w (.bool (decide (la = lb))) := by
  have h := fun W (hu : UpI w W) => equal_fn W va vb la lb (ha.up hu.up) (hb.up hu.up) hl
  unfold Gives
  go_enter Tryz.func54, Tryz.ntmps54
  go_wp2_with (go_at_call 77; refine (h _ inferInstance).mono ?_; rintro e w' ⟨rfl, z, rfl⟩)
  go_ret
  exact ⟨rfl, mkI⟩
end Go.Proofs.YtngmcljkmcdlmaaGreatDoor
namespace Go.Ab
open Go.RowKit
/-- The new row of a slice that was put to. -/
structure NewRow (base : Nat) (w : World) (u : Value) (l : List Ev) : Prop where
  row : EvRow w u l
  base : ∀ b o s n c, u = .slice (some ⟨b, o, s⟩) n c → base ≤ b
theorem NewRow.of_owns {w : World} {base : Nat} {t : TypeId} {v : Value} {l : List Ev} (h : w.ownsRow base t 8 v l.length (evCells l)) : NewRow base w v l :=
  ⟨EvRow.of_owns h, fun b o s n c e => by subst e; exact owns_row h b rfl⟩
theorem evRow_at {w : World} {v : Value} {l : List Ev} (h : EvRow w v l) (hl : 0 < l.length) : ∃ b o cap, v = .slice (some ⟨b, o, none⟩) l.length cap ∧ b < w.heap.size ∧ ∀ j u, (evCells l)[j]? = some u → w.cell? ⟨b, o + j, none⟩ = some u := by
  obtain ⟨p, cap, rfl, hc⟩ := h
  obtain ⟨b, o, rfl, hb, _⟩ := hc 0 hl
  refine ⟨b, o, cap, rfl, hb, fun j u hu => ?_⟩
  have hjl : j < (evCells l).length := (List.getElem?_eq_some_iff.1 hu).1
  have hlen : ∀ l : List Ev, (evCells l).length = l.length * 8 := by
    intro l
    induction l with
    | nil => rfl
    | cons x t ih => rw [evCells, List.flatMap_cons, List.length_append, ← evCells, ih, List.length_cons]; simp [Ev.cells]; omega
  rw [hlen] at hjl
  have hi : j / 8 < l.length := by omega
  obtain ⟨b', o', hp, _, hcc⟩ := hc (j / 8) hi
  simp only [Option.some.injEq, Addr.mk.injEq, and_true] at hp
  obtain ⟨rfl, rfl⟩ := hp
  have hx : l[j / 8]? = some l[j / 8] := List.getElem?_eq_getElem hi
  have hj8 : j % 8 < 8 := by omega
  obtain ⟨v, hv⟩ : ∃ v, (l[j / 8]).cells[j % 8]? = some v := ⟨_, List.getElem?_eq_getElem (show j % 8 < ((l[j / 8]).cells).length from hj8)⟩
  have h1 := evCells_at l (j / 8) (j % 8) _ v hx hv
  rw [show j / 8 * 8 + j % 8 = j by omega, hu] at h1
  have h2 := hcc (j % 8) v (by show (l[j / 8]?).bind _ = some v; rw [hx]; exact hv)
  rw [show o + j / 8 * 8 + j % 8 = o + j by omega] at h2
  rw [h2, h1]
end Go.Ab
namespace Go.Ab
open Go.RowKit Go.Proofs.YtngmcljkmcdlmaaGreatDoor
/-- Is an event taken behind others? -/
def takesB (l : List Ev) (e : Ev) : Bool := match l.getLast? with
  | none => true
  | some p => decide (p.n ≤ e.n)
theorem takesB_iff (l : List Ev) (e : Ev) : takesB l e = true ↔ takes l e := by
  unfold takesB takes
  cases l.getLast? with
  | none => simp
  | some p => simp
/-- What a ring has behind an event, and the answer. -/
def putE (l : List Ev) (e : Ev) : List Ev := if e.right = true ∧ takesB l e = true then l ++ [e] else l
def putA (l : List Ev) (e : Ev) : Int := if e.right = true ∧ takesB l e = true then (l.length : Int) else 0
def putF (l : List Ev) (e : Ev) : Int := if e.right = true then (if takesB l e = true then 0 else 411) else 2
end Go.Ab
namespace Go.Proofs.YtngmcljkmcdlmaaGreatDoor
open Go.RowKit Go.Ab
set_option maxHeartbeats 16000000 in
set_option maxRecDepth 100000 in
theorem rput_bad (w : World) (v : Value) (size : Int) (E : List Ev) (hv : EvRow w v E) (e : Ev) (eb : EvB e) (hri : e.right = false) :
    Gives Tryz.prog 29 #[.agg #[.int .i64 size, v], e.val] w (.tuple #[.agg #[.int .i64 size, v], .int .i64 0, .int .i64 2]) := by
  obtain ⟨p, cap, rfl, _⟩ := hv
  obtain ⟨n, sd, r, pr, s, d, sp, dp⟩ := e
  have hrt : ∀ w', Gives Tryz.prog 18 #[.agg #[.int .i64 n, .int .u8 sd, .int .u8 r, .int .u8 pr, .int .u32 s, .int .u32 d, .int .u16 sp, .int .u16 dp]] w' (.bool false) := fun w' => (rright_any n sd r pr s d sp dp w' eb.sd0 eb.sd1 eb.r0 eb.r1).cast (by rw [show rightEv n sd r pr s d sp dp = false from hri])
  clear hri eb
  unfold Gives Ev.val
  go_enter Tryz.func29, Tryz.ntmps29
  go_wp2_with (first
    | (go_at_call 18; refine (hrt _).mono ?_; rintro e w' ⟨rfl, x, rfl⟩))
  refine bodyPost_ret (v := Value.tuple #[.agg #[.int .i64 size, .slice p E.length cap], .int .i64 0, .int .i64 2]) (by simp [results, Tryz.results29, go_sem]) rfl ?_
  exact ⟨rfl, mkI⟩
set_option maxHeartbeats 16000000 in
set_option maxRecDepth 100000 in
theorem rput_back (w : World) (v : Value) (size : Int) (E : List Ev) (hv : EvRow w v E) (hl : E.length ≤ 900000) (e : Ev) (eb : EvB e) (hri : e.right = true) (ht : takesB E e = false) :
    Gives Tryz.prog 29 #[.agg #[.int .i64 size, v], e.val] w (.tuple #[.agg #[.int .i64 size, v], .int .i64 0, .int .i64 411]) := by
  obtain ⟨q, hq, hqe⟩ : ∃ q, E.getLast? = some q ∧ e.n < q.n := by
    unfold takesB at ht
    cases h : E.getLast? with
    | none => rw [h] at ht; cases ht
    | some q => rw [h] at ht; exact ⟨q, rfl, by simpa using ht⟩
  have hl1 : 1 ≤ E.length := by
    rcases Nat.eq_zero_or_pos E.length with h0 | h0
    · rw [List.length_eq_zero_iff] at h0; subst h0; simp at hq
    · exact h0
  obtain ⟨t, hN⟩ : ∃ t, E.length = t + 1 := ⟨E.length - 1, by omega⟩
  rw [List.getLast?_eq_getElem?, hN, Nat.add_sub_cancel] at hq
  obtain ⟨p, cap, rfl, hc⟩ := hv
  obtain ⟨b, o, rfl, hb, hc⟩ := hc t (by omega)
  simp only [hq, Option.bind_some] at hc
  have c0 := hc 0 _ rfl
  rw [Nat.add_zero] at c0
  rw [hN] at hl ⊢
  haveI : LtSize b w := ⟨hb⟩
  generalize q.n = qn at *
  have hbk : decide (e.n < qn) = true := by simpa using hqe
  have t0 : (0 : Int) ≤ (t : Int) := by omega
  have t1 : (t : Int) ≤ 900000 := by omega
  have t2 : (t : Int) + 1 - 1 = (t : Int) := by omega
  clear hN hq hc hqe hl1 ht
  obtain ⟨n, sd, r, pr, s, d, sp, dp⟩ := e
  simp only at hbk
  have hrt : ∀ w', Gives Tryz.prog 18 #[.agg #[.int .i64 n, .int .u8 sd, .int .u8 r, .int .u8 pr, .int .u32 s, .int .u32 d, .int .u16 sp, .int .u16 dp]] w' (.bool true) := fun w' => (rright_any n sd r pr s d sp dp w' eb.sd0 eb.sd1 eb.r0 eb.r1).cast (by rw [show rightEv n sd r pr s d sp dp = true from hri])
  clear hri eb
  unfold Gives Ev.val
  go_enter Tryz.func29, Tryz.ntmps29
  go_wp2_with (first
    | (go_at_call 18; refine (hrt _).mono ?_; rintro e w' ⟨rfl, x, rfl⟩))
  (refine wp_region_ext (by kernel_rfl) (by kernel_rfl) ?_; (repeat (go_big_quiet_step (fail))); refine wpQuiet_nil ?_; rintro _ ⟨y, rfl⟩)
  go_wp2_with fail
  refine bodyPost_ret (v := Value.tuple #[.agg #[.int .i64 size, .slice (some ⟨b, o, none⟩) (t + 1) cap], .int .i64 0, .int .i64 411]) (by simp [results, Tryz.results29, go_sem]) rfl ?_
  exact ⟨rfl, mkI⟩
end Go.Proofs.YtngmcljkmcdlmaaGreatDoor
namespace Go.Ab
open Go.RowKit
theorem step_append_mine {P : Program} {ops : Array Oper} {o : Oper} {a : Act} {w : World} {K : Act → World → Prop} {Q : Exit → Act → World → Prop} {E : Prop} (hgd : o.guard = none) (s x : Operand) (t : TypeId)
    (ho : o.op = .call { callee := .builtin .append, args := #[s, x], argTypes := #[t, t] })
    (base : Nat) (e : TypeId) (i : TypeInfo) (z : Value) (size bytes : Nat) (ht : P.underlying t = some (.slice e)) (hi : P.info? e = some i) (hz : i.zero = some z)
    (hsize : i.size = size) (hby : i.bytes = bytes) (hzs : z.cells.size = size) (hsz : 0 < size)
    (v : Value) (n : Nat) (xs : List Value) (hs : a.eval s = v) (hown : w.ownsRow base e size v n xs)
    (ad : Addr) (m c : Nat) (news : List Value) (hx : a.eval x = .slice (some ad) m c) (hl : news.length = m * size) (hnews : ∀ j u, news[j]? = some u → w.cell? (ad.add j) = some u) (h1 : ∀ u ∈ news, u.oneCell' = true)
    (h63 : n + m ≤ maxLen) (hbytes : (n + m) * bytes ≤ 140737488355328) (hbase : base ≤ w.heap.size)
    (h : ∀ v' w', w'.ownsRow base e size v' (n + m) (xs ++ news) → w.grownBy w' v.ownBlock → K (a.put o.dst v') w') :
    if Region.wanted o (yielded ops a.tmps) = true then Oper.wp P o a w K Q else E := by
  have hw : Region.wanted o (yielded ops a.tmps) = true := by simp [Region.wanted, hgd]
  rw [if_pos hw]
  exact wp_append_own w s x t ho base e i z size bytes ht hi hz hsize hby hzs hsz v n xs hs hown ad m c news hx hl hnews h1 h63 hbytes hbase fun v' w' h2 h3 _ => h v' w' h2 h3
theorem own_ge {base g n c : Nat} (h : base ≤ g) : ∀ k, Value.ownBlock (.slice (some ⟨g, 0, none⟩) n c) = some k → base ≤ k := fun k hk => by cases hk; exact h
theorem fresh_row (W : World) (t : TypeId) (size : Nat) (W' : World) (h : UpI (W.alloc (.cells #[] t)) W') (base g : Nat) (hg : W.heap.size = g) (hb : base ≤ g) : W'.ownsRow base t size (.slice (some ⟨g, 0, none⟩) 0 0) 0 [] := by
  subst hg
  exact owns_up (World.ownsRow_made W #[] 0 hb (by decide) (by simp)) h.up
end Go.Ab
namespace Go.Ab
theorem ev8 (e : Ev) (j : Nat) (u : Value) (h : e.cells[j]? = some u) : (j = 0 ∧ u = .int .i64 e.n) ∨ (j = 1 ∧ u = .int .u8 e.sd) ∨ (j = 2 ∧ u = .int .u8 e.r) ∨ (j = 3 ∧ u = .int .u8 e.pr) ∨ (j = 4 ∧ u = .int .u32 e.s) ∨ (j = 5 ∧ u = .int .u32 e.d) ∨ (j = 6 ∧ u = .int .u16 e.sp) ∨ (j = 7 ∧ u = .int .u16 e.dp) := by
  have hj8 : j < 8 := (List.getElem?_eq_some_iff.1 h).1
  rcases (by omega : j = 0 ∨ j = 1 ∨ j = 2 ∨ j = 3 ∨ j = 4 ∨ j = 5 ∨ j = 6 ∨ j = 7) with rfl | rfl | rfl | rfl | rfl | rfl | rfl | rfl
  all_goals (simp [Ev.cells] at h; simp [h])
theorem ev8_one (e : Ev) : ∀ u ∈ e.cells, u.oneCell' = true := by
  intro u hu
  simp [Ev.cells] at hu
  rcases hu with rfl | rfl | rfl | rfl | rfl | rfl | rfl | rfl <;> rfl
theorem evCells_one (l : List Ev) : ∀ u ∈ evCells l, u.oneCell' = true := by
  intro u hu
  obtain ⟨e, _, he⟩ := List.mem_flatMap.1 hu
  exact ev8_one e u he
end Go.Ab
namespace Go.Proofs.YtngmcljkmcdlmaaGreatDoor
open Go.RowKit Go.Ab
set_option maxHeartbeats 32000000 in
set_option maxRecDepth 100000 in
theorem rput_first (w : World) (size : Int) (e : Ev) (eb : EvB e) (hri : e.right = true) :
    Calls Tryz.prog 29 #[.agg #[.int .i64 size, .slice none 0 0], e.val] w fun en w' => ∃ u, en = .returned (.tuple #[.agg #[.int .i64 size, u], .int .i64 0, .int .i64 0]) ∧
      w'.ownsRow w.heap.size 34 8 u 1 e.cells ∧ ∃ x : Ext w, w' = x.w := by
  obtain ⟨i0, hi, hy0, hy1, hy2⟩ := info_parts infoREvent
  have Hi := Lib.hid hi; have Hy0 := Lib.hid hy0; have Hy1 := Lib.hid hy1; have Hy2 := Lib.hid hy2
  clear hi hy0 hy1 hy2
  obtain ⟨n, sd, r, pr, s, d, sp, dp⟩ := e
  have hrt : ∀ w', Gives Tryz.prog 18 #[.agg #[.int .i64 n, .int .u8 sd, .int .u8 r, .int .u8 pr, .int .u32 s, .int .u32 d, .int .u16 sp, .int .u16 dp]] w' (.bool true) := fun w' => (rright_any n sd r pr s d sp dp w' eb.sd0 eb.sd1 eb.r0 eb.r1).cast (by rw [show rightEv n sd r pr s d sp dp = true from hri])
  clear hri eb
  unfold Ev.val
  simp only
  go_enter Tryz.func29, Tryz.ntmps29
  go_wp2_with (first
    | (go_at_call 18; refine (hrt _).mono ?_; rintro e w' ⟨rfl, x, rfl⟩))
  (refine wp_region_ext (by kernel_rfl) (by kernel_rfl) ?_; (repeat (go_big_quiet_step (fail))); refine wpQuiet_nil ?_; rintro _ ⟨y, rfl⟩)
  go_upto_region 6 with fail
  have f0 : y.w.cell? ⟨w.heap.size, 0, none⟩ = some (.int .i64 size) := by simp [go_sem]
  have f1 : y.w.cell? ⟨w.heap.size, 1, none⟩ = some (.slice none 0 0) := by simp [go_sem]
  have f2 : y.w.frozen? ⟨w.heap.size, 1, none⟩ = false := by simp [go_sem]
  have e0 : y.w.cell? ⟨w.heap.size + 1, 0, none⟩ = some (.int .i64 n) := by simp [go_sem]
  have e1 : y.w.cell? ⟨w.heap.size + 1, 1, none⟩ = some (.int .u8 sd) := by simp [go_sem]
  have e2 : y.w.cell? ⟨w.heap.size + 1, 2, none⟩ = some (.int .u8 r) := by simp [go_sem]
  have e3 : y.w.cell? ⟨w.heap.size + 1, 3, none⟩ = some (.int .u8 pr) := by simp [go_sem]
  have e4 : y.w.cell? ⟨w.heap.size + 1, 4, none⟩ = some (.int .u32 s) := by simp [go_sem]
  have e5 : y.w.cell? ⟨w.heap.size + 1, 5, none⟩ = some (.int .u32 d) := by simp [go_sem]
  have e6 : y.w.cell? ⟨w.heap.size + 1, 6, none⟩ = some (.int .u16 sp) := by simp [go_sem]
  have e7 : y.w.cell? ⟨w.heap.size + 1, 7, none⟩ = some (.int .u16 dp) := by simp [go_sem]
  have k0 : y.w.cell? ⟨w.heap.size + 1 + 1, 0, none⟩ = some (.int .i64 0) := by simp [go_sem]
  have k1 : y.w.cell? ⟨w.heap.size + 1 + 1, 1, none⟩ = some (.slice none 0 0) := by simp [go_sem]
  have k2 : y.w.frozen? ⟨w.heap.size + 1 + 1, 0, none⟩ = false := by simp [go_sem]
  have k3 : y.w.frozen? ⟨w.heap.size + 1 + 1, 1, none⟩ = false := by simp [go_sem]
  have uY : UpI w y.w := inferInstance
  generalize y.w = Y at *
  obtain ⟨B, hB⟩ : ∃ B, w.heap.size = B := ⟨_, rfl⟩
  have geB : GeSize w B := ⟨by omega⟩
  have hWY := uY.up.size
  rw [hB] at f0 f1 f2 e0 e1 e2 e3 e4 e5 e6 e7 k0 k1 k2 k3 ⊢
  haveI : LtSize B Y := ⟨cell_lt' f0⟩
  haveI : LtSize (B + 1) Y := ⟨cell_lt' e0⟩
  haveI : LtSize (B + 1 + 1) Y := ⟨cell_lt' k0⟩
  go_cut [36] (fun v36 wx => ∃ g1 c1, Hid (wx.ownsRow Y.heap.size 34 8 (.slice (some ⟨g1, 0, none⟩) (0 + 1) c1) (0 + 1) ([] ++ Ev.cells ⟨n, sd, r, pr, s, d, sp, dp⟩)) ∧ UpI w wx ∧ B + 1 + 1 < Y.heap.size ∧ Y.heap.size ≤ wx.heap.size ∧
    wx.cell? ⟨B, 0, none⟩ = some (.int .i64 size) ∧ wx.cell? ⟨B, 1, none⟩ = some (.slice (some ⟨g1, 0, none⟩) (0 + 1) c1) ∧ wx.cell? ⟨B + 1 + 1, 0, none⟩ = some (.int .i64 0) ∧ wx.cell? ⟨B + 1 + 1, 1, none⟩ = some (.slice none 0 0) ∧ wx.frozen? ⟨B + 1 + 1, 0, none⟩ = false ∧ wx.frozen? ⟨B + 1 + 1, 1, none⟩ = false)
  case first =>
    go_region_law (first
      | (refine step_append_mine rfl _ _ 68 rfl Y.heap.size 34 i0 Ev.zero.val 8 32 Tryz.underlying68 Hi.out Hy0.out Hy1.out Hy2.out rfl (by decide) _ 0 [] rfl (fresh_row Y _ 8 _ inferInstance Y.heap.size _ (by simp [go_sem]) (Nat.le_refl _)) ⟨_, 0, none⟩ 1 _ (Ev.cells ⟨n, sd, r, pr, s, d, sp, dp⟩) rfl rfl (fun j u hj => by rcases ev8 _ j u hj with ⟨rfl, rfl⟩ | ⟨rfl, rfl⟩ | ⟨rfl, rfl⟩ | ⟨rfl, rfl⟩ | ⟨rfl, rfl⟩ | ⟨rfl, rfl⟩ | ⟨rfl, rfl⟩ | ⟨rfl, rfl⟩ <;> simp [Addr.add, go_sem]) (ev8_one _) (by decide) (by decide) (upI : Up Y _).size ?_; intro v1 w1 hown hgrow; obtain ⟨g1, c1, rfl, hg1⟩ := owns_slice hown; obtain ⟨x2, rfl⟩ := (Up.grown (upI : Up Y _) hgrow (own_ge (by omega))).mk; have HO2 := Lib.hid hown; clear hown hgrow)
      | (refine step_append_mine rfl _ _ 68 rfl Y.heap.size 34 i0 Ev.zero.val 8 32 Tryz.underlying68 Hi.out Hy0.out Hy1.out Hy2.out rfl (by decide) _ 0 [] rfl (fresh_row (Y.alloc (.cells #[.int .i64 n, .int .u8 sd, .int .u8 r, .int .u8 pr, .int .u32 s, .int .u32 d, .int .u16 sp, .int .u16 dp] 34)) _ 8 _ inferInstance Y.heap.size _ (by simp [go_sem]) (by omega)) ⟨_, 0, none⟩ 1 _ (Ev.cells ⟨n, sd, r, pr, s, d, sp, dp⟩) rfl rfl (fun j u hj => by rcases ev8 _ j u hj with ⟨rfl, rfl⟩ | ⟨rfl, rfl⟩ | ⟨rfl, rfl⟩ | ⟨rfl, rfl⟩ | ⟨rfl, rfl⟩ | ⟨rfl, rfl⟩ | ⟨rfl, rfl⟩ | ⟨rfl, rfl⟩ <;> simp [Addr.add, go_sem]) (ev8_one _) (by decide) (by decide) (upI : Up Y _).size ?_; intro v1 w1 hown hgrow; obtain ⟨g1, c1, rfl, hg1⟩ := owns_slice hown; obtain ⟨x2, rfl⟩ := (Up.grown (upI : Up Y _) hgrow (own_ge (by omega))).mk; have HO2 := Lib.hid hown; clear hown hgrow))
    all_goals (go_wp2_with fail; go_meet; exact ⟨g1, c1, Lib.hid (owns_setBlock HO2.out (show B < Y.heap.size from cell_lt' f0) _), inferInstance, cell_lt' k0, by rw [World.size_setCell]; exact (upI : Up Y x2.w).size, by simp [go_sem, f0], by simp [go_sem, f1], by simp [go_sem, k0], by simp [go_sem, k1], by simp [go_sem, k2], by simp [go_sem, k3]⟩)
  case rest =>
    obtain ⟨g1, c1, HO, hu, hlt, hge, d0, d1, d2, d3, d4, d5⟩ := hcut
    haveI := hu
    go_wp2_with fail
    refine bodyPost_ret (v := Value.tuple #[.agg #[.int .i64 size, .slice (some ⟨g1, 0, none⟩) (0 + 1) c1], .int .i64 0, .int .i64 0]) (by simp [results, Tryz.results29, go_sem, d2, d3]) rfl ?_
    refine ⟨_, rfl, ?_, (upI : Up w _).mk⟩
    have h2 := owns_base (owns_setBlock (owns_setBlock HO.out (a := ⟨B + 1 + 1, 0, none⟩) hlt (.int .i64 size)) (a := ⟨B + 1 + 1, 1, none⟩) hlt (.slice (some ⟨g1, 0, none⟩) (0 + 1) c1)) hWY
    exact h2
end Go.Proofs.YtngmcljkmcdlmaaGreatDoor
namespace Go.Ab
theorem evCells_len (l : List Ev) : (evCells l).length = l.length * 8 := by
  induction l with
  | nil => rfl
  | cons x t ih => rw [evCells, List.flatMap_cons, List.length_append, ← evCells, ih, List.length_cons]; simp [Ev.cells]; omega
theorem addr_add (g j : Nat) : (⟨g, 0, none⟩ : Addr).add j = ⟨g, j, none⟩ := by
  unfold Addr.add
  split <;> simp_all
end Go.Ab
namespace Go.Proofs.YtngmcljkmcdlmaaGreatDoor
open Go.RowKit Go.Ab
set_option maxHeartbeats 32000000 in
set_option maxRecDepth 100000 in
theorem rput_more (w : World) (size : Int) (base t g0 cap : Nat) (E : List Ev) (ho : w.ownsRow base 34 8 (.slice (some ⟨g0, 0, none⟩) (t + 1) cap) (t + 1) (evCells E)) (hN : E.length = t + 1) (hl : t ≤ 900000) (e : Ev) (eb : EvB e) (hri : e.right = true) (q : Ev) (hq : E[t]? = some q) (hqe : q.n ≤ e.n) :
    Calls Tryz.prog 29 #[.agg #[.int .i64 size, .slice (some ⟨g0, 0, none⟩) (t + 1) cap], e.val] w fun en w' => ∃ u, en = .returned (.tuple #[.agg #[.int .i64 size, u], .int .i64 ((t : Int) + 1), .int .i64 0]) ∧
      w'.ownsRow w.heap.size 34 8 u (t + 1 + 1) (evCells E ++ e.cells) ∧ ∃ x : Ext w, w' = x.w := by
  obtain ⟨i0, hi, hy0, hy1, hy2⟩ := info_parts infoREvent
  have Hi := Lib.hid hi; have Hy0 := Lib.hid hy0; have Hy1 := Lib.hid hy1; have Hy2 := Lib.hid hy2
  clear hi hy0 hy1 hy2
  obtain ⟨_, _, hge, _, hglt, _, hcells⟩ := owns_cells ho (by omega)
  simp only [Value.slice.injEq, Option.some.injEq, Addr.mk.injEq, and_true, true_and] at hge
  obtain ⟨rfl, rfl⟩ := hge
  have c0 := hcells _ _ (evCells_at E t 0 q _ hq rfl)
  rw [Nat.add_zero] at c0
  have Hc := Lib.hid hcells
  have Hl := Lib.hid (evCells_len E)
  rw [hN] at Hl
  haveI : LtSize g0 w := ⟨hglt⟩
  generalize q.n = qn at *
  have hbk : decide (e.n < qn) = false := by simp; omega
  have t0 : (0 : Int) ≤ (t : Int) := by omega
  have t1 : (t : Int) ≤ 900000 := by omega
  have t2 : (t : Int) + 1 - 1 = (t : Int) := by omega
  clear hcells ho hN hq hqe
  obtain ⟨n, sd, r, pr, s, d, sp, dp⟩ := e
  have hrt : ∀ w', Gives Tryz.prog 18 #[.agg #[.int .i64 n, .int .u8 sd, .int .u8 r, .int .u8 pr, .int .u32 s, .int .u32 d, .int .u16 sp, .int .u16 dp]] w' (.bool true) := fun w' => (rright_any n sd r pr s d sp dp w' eb.sd0 eb.sd1 eb.r0 eb.r1).cast (by rw [show rightEv n sd r pr s d sp dp = true from hri])
  clear hri eb
  unfold Ev.val
  simp only at hbk ⊢
  go_enter Tryz.func29, Tryz.ntmps29
  go_wp2_with (first
    | (go_at_call 18; refine (hrt _).mono ?_; rintro e w' ⟨rfl, x, rfl⟩))
  (refine wp_region_ext (by kernel_rfl) (by kernel_rfl) ?_; (repeat (go_big_quiet_step (fail))); refine wpQuiet_nil ?_; rintro _ ⟨y, rfl⟩)
  go_upto_region 6 with fail
  have f0 : y.w.cell? ⟨w.heap.size, 0, none⟩ = some (.int .i64 size) := by simp [go_sem]
  have f1 : y.w.cell? ⟨w.heap.size, 1, none⟩ = some (.slice (some ⟨g0, 0, none⟩) (t + 1) cap) := by simp [go_sem]
  have f2 : y.w.frozen? ⟨w.heap.size, 1, none⟩ = false := by simp [go_sem]
  have e0 : y.w.cell? ⟨w.heap.size + 1, 0, none⟩ = some (.int .i64 n) := by simp [go_sem]
  have e1 : y.w.cell? ⟨w.heap.size + 1, 1, none⟩ = some (.int .u8 sd) := by simp [go_sem]
  have e2 : y.w.cell? ⟨w.heap.size + 1, 2, none⟩ = some (.int .u8 r) := by simp [go_sem]
  have e3 : y.w.cell? ⟨w.heap.size + 1, 3, none⟩ = some (.int .u8 pr) := by simp [go_sem]
  have e4 : y.w.cell? ⟨w.heap.size + 1, 4, none⟩ = some (.int .u32 s) := by simp [go_sem]
  have e5 : y.w.cell? ⟨w.heap.size + 1, 5, none⟩ = some (.int .u32 d) := by simp [go_sem]
  have e6 : y.w.cell? ⟨w.heap.size + 1, 6, none⟩ = some (.int .u16 sp) := by simp [go_sem]
  have e7 : y.w.cell? ⟨w.heap.size + 1, 7, none⟩ = some (.int .u16 dp) := by simp [go_sem]
  have k0 : y.w.cell? ⟨w.heap.size + 1 + 1, 0, none⟩ = some (.int .i64 0) := by simp [go_sem]
  have k1 : y.w.cell? ⟨w.heap.size + 1 + 1, 1, none⟩ = some (.slice none 0 0) := by simp [go_sem]
  have k2 : y.w.frozen? ⟨w.heap.size + 1 + 1, 0, none⟩ = false := by simp [go_sem]
  have k3 : y.w.frozen? ⟨w.heap.size + 1 + 1, 1, none⟩ = false := by simp [go_sem]
  have uY : UpI w y.w := inferInstance
  generalize y.w = Y at *
  obtain ⟨B, hB⟩ : ∃ B, w.heap.size = B := ⟨_, rfl⟩
  have geB : GeSize w B := ⟨by omega⟩
  have hWY := uY.up.size
  rw [hB] at f0 f1 f2 e0 e1 e2 e3 e4 e5 e6 e7 k0 k1 k2 k3 ⊢
  have Hcy : Hid (∀ j u, (evCells E)[j]? = some u → Y.cell? ⟨g0, j, none⟩ = some u) := fun j u hu => uY.up.cell_some' (Hc.out j u hu)
  haveI : LtSize B Y := ⟨cell_lt' f0⟩
  haveI : LtSize (B + 1) Y := ⟨cell_lt' e0⟩
  haveI : LtSize (B + 1 + 1) Y := ⟨cell_lt' k0⟩
  go_cut [36] (fun v36 wx => ∃ g1 c1, Hid (wx.ownsRow Y.heap.size 34 8 (.slice (some ⟨g1, 0, none⟩) (t + 1 + 1) c1) (t + 1 + 1) (evCells E ++ Ev.cells ⟨n, sd, r, pr, s, d, sp, dp⟩)) ∧ UpI w wx ∧ B + 1 + 1 < Y.heap.size ∧ Y.heap.size ≤ wx.heap.size ∧
    wx.cell? ⟨B, 0, none⟩ = some (.int .i64 size) ∧ wx.cell? ⟨B, 1, none⟩ = some (.slice (some ⟨g1, 0, none⟩) (t + 1 + 1) c1) ∧ wx.cell? ⟨B + 1 + 1, 0, none⟩ = some (.int .i64 0) ∧ wx.cell? ⟨B + 1 + 1, 1, none⟩ = some (.slice none 0 0) ∧ wx.frozen? ⟨B + 1 + 1, 0, none⟩ = false ∧ wx.frozen? ⟨B + 1 + 1, 1, none⟩ = false)
  case first =>
    go_region_law (first
      | (refine step_append_mine rfl _ _ 68 rfl Y.heap.size 34 i0 Ev.zero.val 8 32 Tryz.underlying68 Hi.out Hy0.out Hy1.out Hy2.out rfl (by decide) _ (t + 1) (evCells E) rfl (owns_up HO1.out upI) ⟨_, 0, none⟩ 1 _ (Ev.cells ⟨n, sd, r, pr, s, d, sp, dp⟩) rfl rfl (fun j u hj => by rcases ev8 _ j u hj with ⟨rfl, rfl⟩ | ⟨rfl, rfl⟩ | ⟨rfl, rfl⟩ | ⟨rfl, rfl⟩ | ⟨rfl, rfl⟩ | ⟨rfl, rfl⟩ | ⟨rfl, rfl⟩ | ⟨rfl, rfl⟩ <;> simp [Addr.add, go_sem]) (ev8_one _) (by unfold maxLen; omega) (by omega) (upI : Up Y _).size ?_; intro v1 w1 hown hgrow; replace hown : w1.ownsRow Y.heap.size 34 8 v1 (t + 1 + 1) (evCells E ++ (Ev.cells ⟨n, sd, r, pr, s, d, sp, dp⟩)) := (by simpa using hown); obtain ⟨g1, c1, rfl, hg1⟩ := owns_slice hown; obtain ⟨x2, rfl⟩ := (Up.grown (upI : Up Y _) hgrow (own_ge (by omega))).mk; have HO2 := Lib.hid hown; clear hown hgrow)
      | (refine step_append_grows rfl _ _ 68 rfl 34 i0 Ev.zero.val 8 32 Tryz.underlying68 Hi.out Hy0.out Hy1.out Hy2.out rfl (by decide) (some ⟨_, 0, none⟩) 0 0 [] rfl (by simp) rfl (by intro b _ j u h; simp at h) ⟨g0, 0, none⟩ (t + 1) _ (evCells E) rfl Hl.out (fun j u hj => by rw [addr_add]; exact (upI : Up Y _).cell_some' (Hcy.out j u hj)) (evCells_one _) (by omega) (by unfold maxLen; omega) (by omega) ?_; intro v1 w1 hown hgrow; replace hown := owns_base hown (show Y.heap.size ≤ _ from (upI : Up Y _).size); rw [Nat.zero_add, List.nil_append] at hown; obtain ⟨g0', c0', rfl, hg0'⟩ := owns_slice hown; obtain ⟨x1, rfl⟩ := (Up.grown (Up.refl _) hgrow (fun k hk => by cases hk)).mk; have HO1 := Lib.hid hown; clear hown hgrow))
    all_goals (go_wp2_with fail; go_meet; exact ⟨g1, c1, Lib.hid (owns_setBlock HO2.out (show B < Y.heap.size from cell_lt' f0) _), inferInstance, cell_lt' k0, by rw [World.size_setCell]; exact (upI : Up Y x2.w).size, by simp [go_sem, f0], by simp [go_sem, f1], by simp [go_sem, k0], by simp [go_sem, k1], by simp [go_sem, k2], by simp [go_sem, k3]⟩)
  case rest =>
    obtain ⟨g1, c1, HO, hu, hlt, hge, d0, d1, d2, d3, d4, d5⟩ := hcut
    haveI := hu
    go_wp2_with fail
    refine bodyPost_ret (v := Value.tuple #[.agg #[.int .i64 size, .slice (some ⟨g1, 0, none⟩) (t + 1 + 1) c1], .int .i64 ((t : Int) + 1), .int .i64 0]) (by simp [results, Tryz.results29, go_sem, d2, d3]) rfl ?_
    refine ⟨_, rfl, ?_, (upI : Up w _).mk⟩
    have h2 := owns_base (owns_setBlock (owns_setBlock HO.out (a := ⟨B + 1 + 1, 0, none⟩) hlt (.int .i64 size)) (a := ⟨B + 1 + 1, 1, none⟩) hlt (.slice (some ⟨g1, 0, none⟩) (t + 1 + 1) c1)) hWY
    exact h2
end Go.Proofs.YtngmcljkmcdlmaaGreatDoor
