/- slices.IndexFunc at lines: where is a key the one of a change's old line. slices.DeleteFunc at lines. slices.DeleteFunc at lines, walked. slices.Clone at lines. -/
import Derived.Test.YtlbbepgfjigjpaaGreatDoorDSort
import Derived.Laws.CopyRow
import Derived.Laws.Cover3
namespace Go.Ab
open Go.RowKit Go.Proofs.YtlbbepgfjigjpaaGreatDoor
/-- A change's box: the key of its old line. -/
structure CbAt (w : World) (cb : Nat) (o : Ln) : Prop where
  k0 : w.cell? ⟨cb, 1, none⟩ = some (.int .u8 o.pr)
  k1 : w.cell? ⟨cb, 2, none⟩ = some (.int .u32 o.s)
  k2 : w.cell? ⟨cb, 3, none⟩ = some (.int .u32 o.d)
  k3 : w.cell? ⟨cb, 4, none⟩ = some (.int .u16 o.sp)
  k4 : w.cell? ⟨cb, 5, none⟩ = some (.int .u16 o.dp)
theorem CbAt.up {w W : World} {cb : Nat} {o : Ln} (h : CbAt w cb o) (u : Up w W) : CbAt W cb o := ⟨u.cell_some h.k0, u.cell_some h.k1, u.cell_some h.k2, u.cell_some h.k3, u.cell_some h.k4⟩
theorem CbAt.lt {w : World} {cb : Nat} {o : Ln} (h : CbAt w cb o) : cb < w.heap.size := cell_lt' h.k0
end Go.Ab
namespace Go.Proofs.YtlbbepgfjigjpaaGreatDoor
open Go.RowKit Go.Ab
attribute [local go_sem high] eq_key
set_option maxHeartbeats 4000000 in
set_option maxRecDepth 100000 in
theorem apply1_any (x o : Ln) (cb : Nat) (w : World) (h : CbAt w cb o) : Gives Tryz.prog 63 #[.agg x.cells.toArray, .pointer (some ⟨cb, 0, none⟩)] w (.bool (keyEq x o)) := by
  haveI : LtSize cb w := ⟨h.lt⟩
  have c0 := h.k0; have c1 := h.k1; have c2 := h.k2; have c3 := h.k3; have c4 := h.k4
  unfold Gives
  unfold Ln.cells keyEq
  go_enter Tryz.func63, Tryz.ntmps63
  go_wp2
  go_ret
  exact ⟨rfl, mkI⟩
set_option maxHeartbeats 16000000 in
set_option maxRecDepth 100000 in
theorem indexfunc_any (L : List Ln) (v : Value) (w : World) (o : Ln) (cb : Nat) (hcb : CbAt w cb o) (hv : LnRow w v L) (hl : L.length ≤ 1000000000) :
    Calls Tryz.prog 91 #[v, .func (.func 63) #[] #[.pointer (some ⟨cb, 0, none⟩)]] w fun e w' =>
      ((∃ k x, L[k]? = some x ∧ keyEq x o = true ∧ (∀ (j : Nat) y, j < k → L[j]? = some y → keyEq y o = false) ∧ e = .returned (.int .i64 (k : Int))) ∨ (∀ y ∈ L, keyEq y o = false) ∧ e = .returned (.int .i64 (-1))) ∧ ∃ x : Ext w, w' = x.w := by
  obtain ⟨p, cap, rfl, hle, hc⟩ := hv
  obtain ⟨N, hN⟩ : ∃ N, L.length = N := ⟨_, rfl⟩
  rw [hN] at hle hl ⊢
  have HN := Lib.hid hN
  have Hc := Lib.hid hc
  clear hN hc
  have hcl : ∀ (x : Ln) W, UpI w W → Gives Tryz.prog 63 #[.agg x.cells.toArray, .pointer (some ⟨cb, 0, none⟩)] W (.bool (keyEq x o)) := fun x W u => apply1_any x o cb W (hcb.up u.up)
  go_enter Tryz.func91, Tryz.ntmps91
  go_wp2_with fail
  go_loopw [8] (fun i wr => ∃ k : Nat, k ≤ N ∧ i = .int .i64 (k : Int) ∧ Hid (∀ (j : Nat) y, j < k → L[j]? = some y → keyEq y o = false) ∧ ∃ x : Ext w, wr = x.w) (fun i _ => N - (intOf i).toNat)
  case atStart => exact ⟨0, Nat.zero_le _, rfl, Lib.hid (fun j y hj => absurd hj (Nat.not_lt_zero j)), (Up.refl w).mk⟩
  case round =>
    obtain ⟨k, hk, rfl, Hk, x0, rfl⟩ := hrel
    by_cases hlt : k < N
    · have hlt' : (k : Int) < (N : Int) := by omega
      have k0 : (0 : Int) ≤ (k : Int) := by omega
      obtain ⟨x, hx⟩ : ∃ x, L[k]? = some x := ⟨_, List.getElem?_eq_getElem (by rw [HN.out]; exact hlt)⟩
      obtain ⟨b, q, rfl, hbw, hcc⟩ := Hc.out k x hx
      have c0 := hcc 0 _ rfl; have c1 := hcc 1 _ rfl; have c2 := hcc 2 _ rfl; have c3 := hcc 3 _ rfl; have c4 := hcc 4 _ rfl; have c5 := hcc 5 _ rfl; have c6 := hcc 6 _ rfl; have c7 := hcc 7 _ rfl; have c8 := hcc 8 _ rfl; have c9 := hcc 9 _ rfl; have c10 := hcc 10 _ rfl
      rw [Nat.add_zero] at c0
      haveI : LtSize b w := ⟨hbw⟩
      have hC := hcl x
      have Hx := Lib.hid hx
      unfold Ln.cells at hC
      clear hcc hx hcl
      cases hE : keyEq x o
      · rw [hE] at hC
        have HE := Lib.hid hE
        clear hE
        go_wp2_with (go_at_call 63; refine (hC _ inferInstance).mono ?_; rintro e w' ⟨rfl, z, rfl⟩)
        go_roundw
        case rel => exact ⟨k + 1, by omega, by go_num, Lib.hid (fun j y hj hy => by rcases Nat.lt_or_eq_of_le (Nat.le_of_lt_succ hj) with h | h; exact Hk.out j y h hy; subst h; rw [Hx.out] at hy; cases hy; exact HE.out), mkI⟩
        case measure => simp [intOf]; omega
      · rw [hE] at hC
        have HE := Lib.hid hE
        clear hE
        go_wp2_with (go_at_call 63; refine (hC _ inferInstance).mono ?_; rintro e w' ⟨rfl, z, rfl⟩)
        go_ret
        exact ⟨.inl ⟨k, x, Hx.out, HE.out, Hk.out, rfl⟩, mkI⟩
    · obtain rfl : k = N := by omega
      go_wp2_with fail
      go_ret
      exact ⟨.inr ⟨fun y hy => by obtain ⟨j, hj⟩ := List.getElem?_of_mem hy; exact Hk.out j y (by rw [← HN.out]; exact (List.getElem?_eq_some_iff.1 hj).1) hj, rfl⟩, mkI⟩
end Go.Proofs.YtlbbepgfjigjpaaGreatDoor
namespace Go.Ab
open Go.RowKit Go.Proofs.YtlbbepgfjigjpaaGreatDoor
/-- A run of cells laid into an array. -/
def insA (cur : Array Value) (off : Nat) (cs : List Value) : Array Value := (cur.toList.take off ++ cs ++ cur.toList.drop (off + cs.length)).toArray
theorem insA_size (cur : Array Value) (off : Nat) (cs : List Value) (h : off + cs.length ≤ cur.size) : (insA cur off cs).size = cur.size := by simp [insA]; omega
theorem insA_take (cur : Array Value) (off : Nat) (cs : List Value) (h : off + cs.length ≤ cur.size) : (insA cur off cs).toList.take (off + cs.length) = cur.toList.take off ++ cs := by
  have hl : (cur.toList.take off ++ cs).length = off + cs.length := by simp; omega
  unfold insA
  show (cur.toList.take off ++ cs ++ cur.toList.drop (off + cs.length)).take (off + cs.length) = _
  rw [← hl, List.take_left]
theorem insA_lo (cur : Array Value) (off : Nat) (cs : List Value) (h : off + cs.length ≤ cur.size) : (insA cur off cs).toList.take off = cur.toList.take off := by
  have := congrArg (·.take off) (insA_take cur off cs h)
  simp only [List.take_take] at this
  rw [show min off (off + cs.length) = off by omega] at this
  rw [this, List.take_append_of_le_length (by simp; omega), List.take_take, Nat.min_self]
theorem insA_hi (cur : Array Value) (off : Nat) (cs : List Value) (t : Nat) (h : off + cs.length ≤ cur.size) (ht : off + cs.length ≤ t) : (insA cur off cs)[t]? = cur[t]? := by
  have hl : (cur.toList.take off ++ cs).length = off + cs.length := by simp; omega
  unfold insA
  rw [List.getElem?_toArray, List.getElem?_append_right (by omega), hl, List.getElem?_drop, show off + cs.length + (t - (off + cs.length)) = t by omega, Array.getElem?_toList]
theorem up_grownBy {w W : World} (h : Up w W) (r : Option Nat) : w.grownBy W r := ⟨h.os, h.tape, h.output, h.size, fun k hk _ => h.block k hk⟩
theorem grownBy_trans {a b c : World} {r : Option Nat} (h : a.grownBy b r) (k : b.grownBy c r) : a.grownBy c r :=
  ⟨k.os.trans h.os, k.tape.trans h.tape, k.output.trans h.output, Nat.le_trans h.size k.size, fun j hj hr => (k.block j (Nat.lt_of_lt_of_le hj h.size) hr).trans (h.block j hj hr)⟩
theorem grownBy_setRow (w : World) (g : Nat) (cs : Array Value) : w.grownBy (w.setRow g cs) (some g) := ⟨rfl, rfl, rfl, by simp, fun k _ hk => setRow_other w g k _ (fun e => hk (by rw [e]))⟩
theorem CbAt.grown {w W : World} {cb g : Nat} {o : Ln} (h : CbAt w cb o) (k : w.grownBy W (some g)) (hne : cb ≠ g) : CbAt W cb o := by
  have hb : W.heap[cb]? = w.heap[cb]? := k.block cb h.lt (fun e => hne (by injection e))
  have hc : ∀ i, W.cell? ⟨cb, i, none⟩ = w.cell? ⟨cb, i, none⟩ := fun i => World.cell?_of_block hb
  exact ⟨(hc _).trans h.k0, (hc _).trans h.k1, (hc _).trans h.k2, (hc _).trans h.k3, (hc _).trans h.k4⟩
theorem zeroCells_one2 (z : Array Value) (n : Nat) (h : ∀ u ∈ z.toList, u.oneCell' = true) (hz : 0 < z.size) : ∀ u ∈ (Builtin.zeroCells z n).toList, u.oneCell' = true := by
  intro u hu
  simp only [Builtin.zeroCells, Array.toList_map, List.mem_map] at hu
  obtain ⟨i, _, rfl⟩ := hu
  have hlt : i % z.size < z.size := Nat.mod_lt _ hz
  rw [getElem!_pos z (i % z.size) hlt]
  exact h _ (by simp)
section
variable {P : Program}
/-- A struct stored into a block, at an offset. -/
theorem wpList_store_ins {ops : Array Oper} {rest : List Oper} {o : Oper} {a : Act} {w : World} {Q : Exit → Act → World → Prop} (hgd : o.guard = none) (ty : TypeId) (x y : Operand) (ho : o.op = .store ty x y)
    (g off : Nat) (cells : Array Value) (hx : a.eval x = .pointer (some ⟨g, off, none⟩)) (hy : a.eval y = .agg cells)
    (t : TypeId) (cur : Array Value) (hg : w.heap[g]? = some (.cells cur t (0, 0))) (hi : (P.info? ty).map (·.size) = some cells.size) (hfit : off + cells.size ≤ cur.size) (h1 : ∀ u ∈ cells.toList, u.oneCell' = true)
    (h : wpList P ops Q rest (a.put o.dst undef) (w.setRow g (insA cur off cells.toList))) : wpList P ops Q (o :: rest) a w := by
  refine wpList_plain hgd fun K hK => ?_
  have hr := run_storeCells_at (P := P) g off t cells.toList 0 cur w hg (by simpa using hfit) h1
  cases hq : P.info? ty with
  | none => simp [hq] at hi
  | some i =>
    have hs : cells.size = i.size := by simp [hq] at hi; omega
    have hsv : (storeVar ty ⟨g, off, none⟩ (.agg cells)).run P w = .ok () (w.setRow g (insA cur off cells.toList)) := by
      simp only [Nat.add_zero] at hr
      simp [storeVar, sizeOf, typeInfo, hq, Value.cells, hs, hr, insA]
    unfold Oper.wp execOp
    simp only [ho, hx, hy, Instr.storeAt, Instr.sureAddr, Sem.run_bind, Sem.run_pure, Result.andThen_ok, hsv]
    exact hK _ _ h
/-- A part of a block cleared. -/
theorem wpList_clear_ins {ops : Array Oper} {rest : List Oper} {o : Oper} {a : Act} {w : World} {Q : Exit → Act → World → Prop} (hgd : o.guard = none) (s : Operand) (t : TypeId)
    (ho : o.op = .call { callee := .builtin .clear, args := #[s], argTypes := #[t] })
    (e : TypeId) (i : TypeInfo) (z : Value) (size : Nat) (ht : P.underlying t = some (.slice e)) (hi : P.info? e = some i) (hz : i.zero = some z)
    (hzs : z.cells.size = size) (hsz : 0 < size) (h1 : ∀ u ∈ z.cells.toList, u.oneCell' = true) (g off n cap : Nat) (hs : a.eval s = .slice (some ⟨g, off, none⟩) n cap) (tc : TypeId) (cur : Array Value) (hg : w.heap[g]? = some (.cells cur tc (0, 0))) (hfit : off + n * size ≤ cur.size)
    (h : ∀ cs : List Value, cs.length = n * size → wpList P ops Q rest (a.put o.dst (.tuple #[])) (w.setRow g (insA cur off cs))) : wpList P ops Q (o :: rest) a w := by
  refine wpList_plain hgd fun K hK => ?_
  have hlen : (Builtin.zeroCells z.cells n).toList.length = n * size := by rw [Array.length_toList, size_zeroCells, hzs]
  by_cases hn : n = 0
  · subst hn
    have hself : w.setRow g (insA cur off []) = w := by
      rw [show insA cur off [] = cur by simp [insA]]; exact setRow_self w g cur tc _ hg
    have h2 := h [] (by simp)
    rw [hself] at h2
    unfold Oper.wp execOp
    simp only [ho, resolve, invoke, builtin, Sem.run_bind, Sem.run_pure, Result.andThen_ok, List.map_toArray, List.map_cons, List.map_nil, hs]
    simp [Builtin.clear_, run_underlying ht]
    exact hK _ _ h2
  · have hr := run_storeCells_at (P := P) g off tc (Builtin.zeroCells z.cells n).toList 0 cur w hg (by rw [hlen]; omega) (zeroCells_one2 _ _ h1 (by omega))
    have h2 := h (Builtin.zeroCells z.cells n).toList hlen
    simp only [Nat.add_zero] at hr
    have hc : (Builtin.clear_ #[t] o.type #[.slice (some ⟨g, off, none⟩) n cap]).run P w = .ok (.tuple #[]) (w.setRow g (insA cur off (Builtin.zeroCells z.cells n).toList)) := by
      simp [Builtin.clear_, run_underlying ht, zeroValue, typeInfo, hi, hz, hn, hr, insA]
    unfold Oper.wp execOp
    simp only [ho, resolve, invoke, builtin, Sem.run_bind, Sem.run_pure, Result.andThen_ok, List.map_toArray, List.map_cons, List.map_nil, hs, hc]
    exact hK _ _ h2
end
end Go.Ab
namespace Go.Ab
open Go.RowKit Go.Proofs.YtlbbepgfjigjpaaGreatDoor
def keepL (o : Ln) (L : List Ln) : List Ln := L.filter fun x => !keyEq x o
theorem keepL_snoc (o x : Ln) (L : List Ln) (j : Nat) (h : L[j]? = some x) : keepL o (L.take (j + 1)) = keepL o (L.take j) ++ (if keyEq x o then [] else [x]) := by
  obtain ⟨hj, rfl⟩ := List.getElem?_eq_some_iff.1 h
  unfold keepL
  rw [List.take_succ_eq_append_getElem hj, List.filter_append]
  congr 1
  cases h : keyEq L[j] o <;> simp [h]
theorem keepL_none (o : Ln) (L : List Ln) (h : ∀ y ∈ L, keyEq y o = false) : keepL o L = L := List.filter_eq_self.2 fun y hy => by rw [h y hy]; rfl
theorem keepL_start (o x : Ln) (L : List Ln) (k : Nat) (hx : L[k]? = some x) (he : keyEq x o = true) (h : ∀ (j : Nat) y, j < k → L[j]? = some y → keyEq y o = false) : keepL o (L.take (k + 1)) = L.take k := by
  rw [keepL_snoc o x L k hx, if_pos he, List.append_nil]
  refine keepL_none o _ fun y hy => ?_
  obtain ⟨j, hj⟩ := List.getElem?_of_mem hy
  rw [List.getElem?_take] at hj
  split at hj
  · exact h j y (by assumption) hj
  · cases hj
theorem flat_take (L : List Ln) (k : Nat) : (L.take k).flatMap Ln.cells = (L.flatMap Ln.cells).take (k * 11) := by
  induction L generalizing k with
  | nil => simp
  | cons x t ih =>
    cases k with
    | zero => simp
    | succ k =>
      rw [List.take_succ_cons, List.flatMap_cons, List.flatMap_cons, ih k, Nat.succ_mul, List.take_append, show x.cells.length = 11 from rfl, show k * 11 + 11 - 11 = k * 11 by omega, List.take_of_length_le (l := x.cells) (by rw [x.cells_length]; omega)]
end Go.Ab
namespace Go.Proofs.YtlbbepgfjigjpaaGreatDoor
open Go.RowKit Go.Ab
theorem lnSize : (Tryz.prog.info? 31).map (·.size) = some 11 := by kernel_rfl
set_option maxHeartbeats 16000000 in
set_option maxRecDepth 100000 in
theorem deletefunc_row (L : List Ln) (g cap N base : Nat) (w : World) (o : Ln) (cb : Nat) (hcb : CbAt w cb o) (hN : L.length = N) (hown : w.ownsRow base 31 11 (.slice (some ⟨g, 0, none⟩) N cap) N (L.flatMap Ln.cells)) (hne : cb ≠ g) (hl : N ≤ 1000000000) :
    Calls Tryz.prog 62 #[.slice (some ⟨g, 0, none⟩) N cap, .func (.func 63) #[] #[.pointer (some ⟨cb, 0, none⟩)]] w fun e w' =>
      e = .returned (.slice (some ⟨g, 0, none⟩) (keepL o L).length cap) ∧ w'.ownsRow base 31 11 (.slice (some ⟨g, 0, none⟩) (keepL o L).length cap) (keepL o L).length ((keepL o L).flatMap Ln.cells) ∧ w.grownBy w' (some g) := by
  have hrow : LnRow w (.slice (some ⟨g, 0, none⟩) N cap) L := by rw [← hN]; exact LnRow.of_owns (by rw [hN]; exact hown)
  have hix := indexfunc_any L _ w o cb hcb hrow (by omega)
  obtain ⟨hxl, ⟨h0, _⟩ | ⟨g', cap', cur0, hv, hbg, hg0, hcap, hmax, hcs, hcur⟩⟩ := id hown
  · cases h0
  · simp only [Value.slice.injEq, Option.some.injEq, Addr.mk.injEq, and_true] at hv
    obtain ⟨rfl, _, rfl⟩ := hv
    have hgl : g < w.heap.size := (Array.getElem?_eq_some_iff.1 hg0).1
    haveI : LtSize g w := ⟨hgl⟩
    have HN := Lib.hid hN
    have Hown := Lib.hid hown
    have Hcur := Lib.hid hcur
    clear hN hown hxl hcur hrow
    go_enter Tryz.func62, Tryz.ntmps62
    go_upto_region 2 with (go_at_call 91; refine hix.mono ?_; rintro e w' ⟨⟨k, x, hx, hxe, hxb, rfl⟩ | ⟨hall, rfl⟩, z0, rfl⟩)
    · have hkN : k < N := by rw [← HN.out]; exact (List.getElem?_eq_some_iff.1 hx).1
      have HS := Lib.hid (keepL_start o x L k hx hxe hxb)
      have hkn : ((k : Int) == (-1 : Int)) = false := by rw [beq_eq_false_iff_ne]; omega
      have hkn2 : ¬ ((k : Int) = (-1 : Int)) := by omega
      have hkn3 : decide ((k : Int) = (-1 : Int)) = false := decide_eq_false (by omega)
      clear hix hx hxe hxb
      go_wp2_with fail
      have hk1 : ((k : Int) + 1) = ((k + 1 : Nat) : Int) := by omega
      go_loopw [5, 6] (fun i j wr => ∃ (b a : Nat) (cur : Array Value), b ≤ N ∧ a ≤ b ∧ j = .int .i64 (b : Int) ∧ i = .int .i64 (a : Int) ∧ Hid ((keepL o (L.take b)).length = a) ∧ Hid (cur.toList.take (a * 11) = (keepL o (L.take b)).flatMap Ln.cells) ∧ Hid (∀ t, b * 11 ≤ t → t < N * 11 → cur[t]? = (L.flatMap Ln.cells)[t]?) ∧ cur.size = cap * 11 ∧ w.grownBy wr (some g) ∧ g < wr.heap.size ∧ Hid (wr.heap[g]? = some (.cells cur 31 (0, 0)))) (fun _ j _ => N - (intOf j).toNat)
      case atStart =>
        refine ⟨k + 1, k, cur0, by omega, by omega, by go_num, rfl, Lib.hid ?_, Lib.hid ?_, Lib.hid ?_, hcs, up_grownBy (upI : Up w z0.w) _, lt_of_size z0.w g, Lib.hid ?_⟩
        · rw [HS.out, List.length_take, HN.out]; omega
        · rw [HS.out, flat_take, ← Hcur.out, List.take_take]; congr 1; omega
        · intro t _ ht
          rw [← Hcur.out, List.getElem?_take, if_pos ht, Array.getElem?_toList]
        · exact ((upI : Up w z0.w).block g hgl).trans hg0
      case round =>
        clear hkn hkn2 hkn3 hk1 HS hkN z0
        obtain ⟨b, a, cur, hb, hab, rfl, rfl, Ha, HA, HBt, hcz, hgr, hgw, Hg⟩ := hrel
        haveI : LtSize g wr := ⟨hgw⟩
        have hcb2 : CbAt wr cb o := hcb.grown hgr hne
        by_cases hlt : b < N
        · have hlt' : (b : Int) < (N : Int) := by omega
          have k0 : (0 : Int) ≤ (b : Int) := by omega
          have a0 : (0 : Int) ≤ (a : Int) := by omega
          have aN : (a : Int) < (N : Int) := by omega
          obtain ⟨x, hx⟩ : ∃ x, L[b]? = some x := ⟨_, List.getElem?_eq_getElem (by rw [HN.out]; exact hlt)⟩
          have hcell : ∀ (t : Nat) u, x.cells[t]? = some u → wr.cell? ⟨g, b * 11 + t, none⟩ = some u := fun t u hu => by
            have ht : t < 11 := by have := (List.getElem?_eq_some_iff.1 hu).1; rwa [x.cells_length] at this
            rw [cell_of_row wr g _ _ _ _ Hg.out, HBt.out _ (by omega) (by omega)]
            exact flat_at (cells := Ln.cells) (k := 11) (fun y => y.cells_length) L b t x u hx hu
          have c0 := hcell 0 _ rfl; have c1 := hcell 1 _ rfl; have c2 := hcell 2 _ rfl; have c3 := hcell 3 _ rfl; have c4 := hcell 4 _ rfl; have c5 := hcell 5 _ rfl; have c6 := hcell 6 _ rfl; have c7 := hcell 7 _ rfl; have c8 := hcell 8 _ rfl; have c9 := hcell 9 _ rfl; have c10 := hcell 10 _ rfl
          rw [Nat.add_zero] at c0
          have hC : ∀ W, UpI wr W → Gives Tryz.prog 63 #[.agg x.cells.toArray, .pointer (some ⟨cb, 0, none⟩)] W (.bool (keyEq x o)) := fun W u => apply1_any x o cb W (hcb2.up u.up)
          have HSn := Lib.hid (keepL_snoc o x L b hx)
          unfold Ln.cells at hC
          clear hcell hx
          cases hE : keyEq x o
          · rw [hE] at hC
            have HE := Lib.hid hE
            clear hE
            go_upto_region 9 with (go_at_call 63; refine (hC _ inferInstance).mono ?_; rintro e w' ⟨rfl, z, rfl⟩)
            have hgz := ((upI : Up wr z.w).block g hgw).trans Hg.out
            have hfit : a * 11 + x.cells.length ≤ cur.size := by rw [hcz, x.cells_length]; omega
            go_wp2_with (first
              | (refine wpList_store_ins rfl 31 _ _ rfl g (a * 11) x.cells.toArray rfl rfl 31 cur hgz lnSize hfit (fun u hu => x.one u hu) ?_))
            go_roundw
            case rel =>
              refine ⟨b + 1, a + 1, insA cur (a * 11) x.cells, by omega, by omega, by go_num, by go_num, Lib.hid ?_, Lib.hid ?_, Lib.hid (fun t h1 h2 => ?_), (insA_size _ _ _ hfit).trans hcz, grownBy_trans hgr (grownBy_trans (up_grownBy (upI : Up wr z.w) _) (grownBy_setRow _ _ _)), by rw [size_setRow]; exact lt_of_size z.w g, Lib.hid (setRow_heap _ _ _ _ _ _ hgz)⟩
              · rw [HSn.out, HE.out, if_neg (by simp), List.length_append, Ha.out]; rfl
              · rw [show (a + 1) * 11 = a * 11 + x.cells.length by rw [x.cells_length]; omega, insA_take _ _ _ hfit, HA.out, HSn.out, HE.out, if_neg (by simp), List.flatMap_append]; simp
              · rw [insA_hi _ _ _ _ hfit (by rw [x.cells_length]; omega)]; exact HBt.out t (by omega) h2
            case measure => simp [intOf]; omega
          · rw [hE] at hC
            have HE := Lib.hid hE
            clear hE
            go_wp2_with (go_at_call 63; refine (hC _ inferInstance).mono ?_; rintro e w' ⟨rfl, z, rfl⟩)
            go_roundw
            case rel => exact ⟨b + 1, a, cur, by omega, by omega, by go_num, rfl, Lib.hid (by rw [HSn.out, HE.out, if_pos rfl, List.append_nil]; exact Ha.out), Lib.hid (by rw [HSn.out, HE.out, if_pos rfl, List.append_nil]; exact HA.out), Lib.hid (fun t h1 h2 => HBt.out t (by omega) h2), hcz, grownBy_trans hgr (up_grownBy (upI : Up wr z.w) _), lt_of_size z.w g, Lib.hid (((upI : Up wr z.w).block g hgw).trans Hg.out)⟩
            case measure => simp [intOf]; omega
        · obtain rfl : b = N := by omega
          have a0 : (0 : Int) ≤ (a : Int) := by omega
          have aN : (a : Int) ≤ (b : Int) := by omega
          obtain ⟨i0, hi, hy0, hy1, hy2⟩ := info_parts infoLine
          have Hi := Lib.hid hi; have Hy0 := Lib.hid hy0
          clear hi hy0 hy1 hy2
          by_cases hca : cap = a
          · subst hca
            obtain rfl : b = cap := by omega
            have hall : keepL o L = keepL o (L.take b) := by rw [List.take_of_length_le (by rw [HN.out]; exact Nat.le_refl _)]
            go_upto_region 11 with fail
            refine wp_region_lit ?_
            refine wpList_step (fun K hK => ?_)
            go_simp
            refine hK _ _ ?_; clear hK K
            refine wpList_step (fun K hK => ?_)
            go_simp
            refine hK _ _ ?_; clear hK K
            refine wpList_step (fun K hK => ?_)
            go_simp
            refine hK _ _ ?_; clear hK K
            refine wpList_clear_ins rfl _ 22 rfl 31 i0 Ln.zero.val 11 Tryz.underlying22 Hi.out Hy0.out rfl (by decide) (fun u hu => Ln.zero.one u hu) g 0 _ _ rfl 31 cur Hg.out (by rw [hcz]; omega) ?_
            intro cs hcl
            obtain rfl := List.length_eq_zero_iff.1 (hcl.trans (by omega))
            have hin : insA cur 0 [] = cur := by simp [insA]
            have hfit : 0 + ([] : List Value).length ≤ cur.size := Nat.zero_le _
            go_wp2_with fail
            go_ret
            rw [hall, Ha.out]
            refine ⟨rfl, ⟨by rw [← HA.out, List.length_take, Array.length_toList, hcz]; omega, .inr ⟨g, b, insA cur 0 [], rfl, hbg, setRow_heap _ _ _ _ _ _ Hg.out, by omega, hmax, (insA_size _ _ _ hfit).trans hcz, ?_⟩⟩, grownBy_trans hgr (grownBy_setRow _ _ _)⟩
            rw [hin]
            exact HA.out
          · have hall : keepL o L = keepL o (L.take b) := by rw [List.take_of_length_le (by rw [HN.out]; exact Nat.le_refl _)]
            go_upto_region 11 with fail
            refine wp_region_lit ?_
            refine wpList_step (fun K hK => ?_)
            go_simp
            refine hK _ _ ?_; clear hK K
            refine wpList_step (fun K hK => ?_)
            go_simp
            refine hK _ _ ?_; clear hK K
            refine wpList_step (fun K hK => ?_)
            go_simp
            refine hK _ _ ?_; clear hK K
            refine wpList_clear_ins rfl _ 22 rfl 31 i0 Ln.zero.val 11 Tryz.underlying22 Hi.out Hy0.out rfl (by decide) (fun u hu => Ln.zero.one u hu) g (a * 11) _ _ rfl 31 cur Hg.out (by rw [hcz]; omega) ?_
            intro cs hcl
            have hfit : a * 11 + cs.length ≤ cur.size := by rw [hcl, hcz]; omega
            go_wp2_with fail
            go_ret
            rw [hall, Ha.out]
            refine ⟨rfl, ⟨by rw [← HA.out, List.length_take, Array.length_toList, hcz]; omega, .inr ⟨g, cap, insA cur (a * 11) cs, rfl, hbg, setRow_heap _ _ _ _ _ _ Hg.out, by omega, hmax, (insA_size _ _ _ hfit).trans hcz, ?_⟩⟩, grownBy_trans hgr (grownBy_setRow _ _ _)⟩
            rw [insA_lo _ _ _ hfit]
            exact HA.out
    · have HK := Lib.hid (keepL_none o L hall)
      clear hix hall
      go_wp2_with fail
      go_ret
      refine ⟨?_, ?_, up_grownBy (upI : Up w z0.w) _⟩
      · rw [HK.out, HN.out]; rfl
      · rw [HK.out, HN.out]; exact owns_up Hown.out upI
end Go.Proofs.YtlbbepgfjigjpaaGreatDoor
namespace Go.Ab
open Go.RowKit Go.Proofs.YtlbbepgfjigjpaaGreatDoor
theorem lnRow_cells {w : World} {p : Addr} {n cap : Nat} {L : List Ln} (h : LnRow w (.slice (some p) n cap) L) (j : Nat) (u : Value) (hu : (L.flatMap Ln.cells)[j]? = some u) : w.cell? (p.add j) = some u := by
  obtain ⟨p', cap', hv, hle, hc⟩ := h
  simp only [Value.slice.injEq] at hv
  obtain ⟨rfl, rfl, rfl⟩ := hv
  have hj : j < L.length * 11 := by
    have := (List.getElem?_eq_some_iff.1 hu).1
    rwa [flat_length (cells := Ln.cells) (fun y => y.cells_length)] at this
  have hi : j / 11 < L.length := by omega
  have he : L[j / 11]? = some L[j / 11] := List.getElem?_eq_getElem hi
  obtain ⟨b, o, hp, hb, hcc⟩ := hc _ _ he
  simp only [Option.some.injEq] at hp
  subst hp
  have ht : (L[j / 11]).cells[j % 11]? = some ((L[j / 11]).cells[j % 11]'(by rw [Ln.cells_length]; omega)) := List.getElem?_eq_getElem _
  have h1 := flat_at (cells := Ln.cells) (k := 11) (fun y => y.cells_length) L (j / 11) (j % 11) _ _ he ht
  rw [show j / 11 * 11 + j % 11 = j by omega, hu] at h1
  have h2 := hcc _ _ ht
  rw [show o + j / 11 * 11 + j % 11 = o + j by omega, ← h1] at h2
  have e1 : Addr.add ⟨b, o, none⟩ j = ⟨b, o + j, none⟩ := by cases j <;> simp [Addr.add]
  rw [e1]; exact h2
theorem flat_one (L : List Ln) (u : Value) (h : u ∈ L.flatMap Ln.cells) : u.oneCell' = true := by
  obtain ⟨x, _, hx⟩ := List.mem_flatMap.1 h
  exact x.one u hx
end Go.Ab
namespace Go.Proofs.YtlbbepgfjigjpaaGreatDoor
open Go.RowKit Go.Ab
theorem eq_nilS (w : World) (a : Option Addr) (n c : Nat) : (binOp .eql 22 (.slice a n c) (.slice none 0 0)).run Tryz.prog w = .ok (.bool a.isNone) w := by
  show (do pure (.bool (← Op.equal 22 (.slice a n c) (.slice none 0 0))) : Sem Value).run Tryz.prog w = _
  simp [run_equal_slice_nil w 22 31 a n c Tryz.underlying22]
attribute [local go_sem high] eq_nilS
set_option maxHeartbeats 8000000 in
set_option maxRecDepth 100000 in
theorem clone_any (L : List Ln) (v : Value) (w : World) (hv : LnRow w v L) (hl : L.length ≤ 1000000000) :
    Calls Tryz.prog 61 #[v] w fun e w' => ∃ u, e = .returned u ∧ w'.ownsRow w.heap.size 31 11 u L.length (L.flatMap Ln.cells) ∧ ∃ x : Ext w, w' = x.w := by
  have hrow := hv
  obtain ⟨p, cap, rfl, hle, hc⟩ := hv
  cases p with
  | none =>
    have h0 : L = [] := by
      cases L with
      | nil => rfl
      | cons x t => obtain ⟨b, o, h, _⟩ := hc 0 x rfl; cases h
    subst h0
    go_enter Tryz.func61, Tryz.ntmps61
    go_wp2_with fail
    go_ret
    exact ⟨_, rfl, World.ownsRow_nil _ _ _ _, mkI⟩
  | some p =>
    obtain ⟨N, hN⟩ : ∃ N, L.length = N := ⟨_, rfl⟩
    have hlen : (L.flatMap Ln.cells).length = N * 11 := by rw [flat_length (cells := Ln.cells) (fun y => y.cells_length), hN]
    rw [hN] at hrow hle hl ⊢
    have hcell := fun j u h => lnRow_cells hrow j u h
    have h1 := flat_one L
    obtain ⟨i0, hi, hy0, hy1, hy2⟩ := info_parts infoLine
    have Hi := Lib.hid hi; have Hy0 := Lib.hid hy0; have Hy1 := Lib.hid hy1; have Hy2 := Lib.hid hy2
    clear hi hy0 hy1 hy2 hc hrow hN
    generalize L.flatMap Ln.cells = news at *
    have Hcell := Lib.hid hcell
    clear hcell
    go_enter Tryz.func61, Tryz.ntmps61
    go_wp2_with (first
      | (at_builtin; refine wpList_append_own _ rfl _ _ 22 rfl w.heap.size 31 i0 Ln.zero.val 11 40 Tryz.underlying22 Hi.out Hy0.out Hy1.out Hy2.out rfl (by decide) _ 0 [] rfl (World.ownsRow_made w #[] 0 (Nat.le_refl _) (by decide) (by simp)) p N _ news rfl hlen (fun j u h => (Up.cell_some ((Up.refl w).alloc _) (Hcell.out j u h))) h1 (by unfold maxLen; omega) (by omega) (by simp) ?_; intro v' w1 hown' hgrow _))
    go_ret
    rw [Nat.zero_add, List.nil_append] at hown'
    exact ⟨_, rfl, hown', (Up.grown ((Up.refl w).alloc _) hgrow (fun k hk => by cases hk; exact Nat.le_refl _)).mk⟩
end Go.Proofs.YtlbbepgfjigjpaaGreatDoor
