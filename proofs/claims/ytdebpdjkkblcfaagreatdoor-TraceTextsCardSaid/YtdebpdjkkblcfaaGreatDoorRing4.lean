/- What a ring is when an event has been put into it; events that are not taken; rings that are none. -/
import Derived.Test.YtdebpdjkkblcfaaGreatDoorRing3
namespace Go.Proofs.YtdebpdjkkblcfaaGreatDoor
open Go.RowKit Go.Ab
theorem putW_past (w : World) (x : Ext w) (R G g r : Nat) (t c : Int) (e : Ev) : Past (ringOwn R G) w (putW x.w R G g r t c e) :=
  ((((((((((Past.of_up x.up).setCell _ _ (.inr rfl)).setCell _ _ (.inr rfl)).setCell _ _ (.inr rfl)).setCell _ _ (.inr rfl)).setCell _ _ (.inr rfl)).setCell _ _ (.inr rfl)).setCell _ _ (.inr rfl)).setCell _ _ (.inr rfl)).setCell _ _ (.inl rfl)).setCell _ _ (.inl rfl)
theorem mod_ne (n t size : Nat) (h : n < t) (h2 : t + 1 ≤ n + size) : n % size ≠ t % size := by
  intro he
  have h3 := Nat.sub_mod_eq_zero_of_mod_eq he.symm
  have h4 := Nat.le_of_dvd (by omega) (Nat.dvd_of_mod_eq_zero h3)
  omega
theorem putW_ring (W : World) (R G size : Nat) (l : List Ev) (h : Ring W R G size l) (e : Ev) (r : Nat) (hr : e.r = (r : Int)) (r30 : r < 30) (hl : l.length < 1000000) :
    Ring (putW W R G (l.length % size * 8) r l.length (countR l r) e) R G size (l ++ [e]) := by
  obtain ⟨s0, s1, _, ne, ring, cs, hG, hz, hv⟩ := h
  have hm : l.length % size < size := Nat.mod_lt _ (by omega)
  refine ⟨s0, s1, by simp; omega, ne, ?_, set8 cs (l.length % size * 8) e, ?_, by rw [set8_size, hz], ?_⟩
  · rw [← ringCells_snoc G size l e r hr r30]
    unfold putW
    refine Go.heap_setCell_same _ _ _ _ _ _ (Go.heap_setCell_same _ _ _ _ _ _ ?_)
    rw [Go.heap_setCell_other _ _ _ _ ne, Go.heap_setCell_other _ _ _ _ ne, Go.heap_setCell_other _ _ _ _ ne, Go.heap_setCell_other _ _ _ _ ne, Go.heap_setCell_other _ _ _ _ ne, Go.heap_setCell_other _ _ _ _ ne, Go.heap_setCell_other _ _ _ _ ne, Go.heap_setCell_other _ _ _ _ ne]
    exact ring
  · unfold putW
    rw [Go.heap_setCell_other _ _ _ _ ne.symm, Go.heap_setCell_other _ _ _ _ ne.symm]
    exact Go.heap_setCell_same _ _ _ _ _ _ (Go.heap_setCell_same _ _ _ _ _ _ (Go.heap_setCell_same _ _ _ _ _ _ (Go.heap_setCell_same _ _ _ _ _ _ (Go.heap_setCell_same _ _ _ _ _ _ (Go.heap_setCell_same _ _ _ _ _ _ (Go.heap_setCell_same _ _ _ _ _ _ (Go.heap_setCell_same _ _ _ _ _ _ hG)))))))
  · intro n e' hn hk j v hj
    have hj8 : j < 8 := (List.getElem?_eq_some_iff.1 hj).1
    rw [List.length_append, List.length_singleton] at hk
    have hnl : n < (l ++ [e]).length := (List.getElem?_eq_some_iff.1 hn).1
    rw [List.length_append, List.length_singleton] at hnl
    rcases Nat.lt_or_ge n l.length with h1 | h1
    · rw [List.getElem?_append_left h1] at hn
      have hne := mod_ne n l.length size h1 hk
      rw [set8_out _ _ _ _ (by omega)]
      exact hv n e' hn (by omega) j v hj
    · obtain rfl : n = l.length := by omega
      have : e' = e := by simpa using hn.symm
      subst this
      exact set8_in _ _ _ (by rw [hz]; omega) j v hj
/-- An event is taken. -/
def takes (l : List Ev) (e : Ev) : Prop := ∀ p, l.getLast? = some p → p.n ≤ e.n
theorem ring_put (w : World) (R G size : Nat) (l : List Ev) (h : Ring w R G size l) (e : Ev) (eb : EvB e) (hri : e.right = true) (hlast : takes l e) (hl : l.length < 1000000) :
    Calls Tryz.prog 12 #[.pointer (some ⟨R, 0, none⟩), e.val] w fun en w' => en = .returned (.tuple #[.int .i64 (l.length : Int), .int .i64 0]) ∧ Ring w' R G size (l ++ [e]) ∧ Past (ringOwn R G) w w' := by
  obtain ⟨r, hr⟩ := Int.eq_ofNat_of_zero_le eb.r0
  have hri' := hri
  unfold Ev.right rightEv at hri'
  simp only [Bool.and_eq_true, decide_eq_true_eq] at hri'
  obtain ⟨_, ⟨_, r1, r30⟩, _⟩ := hri'
  cases hlen : l.length with
  | zero =>
    refine (put_first w R G size l h e r hr (by omega) (by omega) eb hri hlen).mono ?_
    rintro en w' ⟨rfl, x, rfl⟩
    have := putW_ring x.w R G size l (h.up x.up) e r hr (by omega) hl
    rw [hlen, Nat.zero_mod] at this
    exact ⟨rfl, this, putW_past _ _ _ _ _ _ _ _ _⟩
  | succ t =>
    obtain ⟨p, hp⟩ : ∃ p, l[t]? = some p := ⟨_, List.getElem?_eq_getElem (by omega)⟩
    have hpe : p.n ≤ e.n := hlast p (by rw [List.getLast?_eq_getElem?, hlen]; exact hp)
    refine (put_more w R G size l h e r hr (by omega) (by omega) eb hri t hlen p hp hpe).mono ?_
    rintro en w' ⟨rfl, x, rfl⟩
    have := putW_ring x.w R G size l (h.up x.up) e r hr (by omega) hl
    rw [hlen] at this
    exact ⟨rfl, this, putW_past _ _ _ _ _ _ _ _ _⟩
set_option maxHeartbeats 4000000 in
set_option maxRecDepth 100000 in
/-- An event that is not right is not taken. -/
theorem put_bad (w : World) (R G size : Nat) (l : List Ev) (h : Ring w R G size l) (e : Ev) (eb : EvB e) (hri : e.right = false) :
    Gives Tryz.prog 12 #[.pointer (some ⟨R, 0, none⟩), e.val] w (.tuple #[.int .i64 0, .int .i64 2]) := by
  have hno : ∀ w', UpI w w' → Gives Tryz.prog 34 #[.pointer (some ⟨R, 0, none⟩)] w' (.bool false) := fun w' hu => ring_none w' R G size l (h.up hu.up)
  obtain ⟨n, sd, r, pr, s, d, sp, dp⟩ := e
  have hrt : ∀ w', Gives Tryz.prog 23 #[.agg #[.int .i64 n, .int .u8 sd, .int .u8 r, .int .u8 pr, .int .u32 s, .int .u32 d, .int .u16 sp, .int .u16 dp]] w' (.bool false) := fun w' => (tright_any n sd r pr s d sp dp w' eb.sd0 eb.sd1 eb.r0 eb.r1).cast (by rw [show rightEv n sd r pr s d sp dp = false from hri])
  clear h hri eb
  unfold Gives Ev.val
  go_enter Tryz.func12, Tryz.ntmps12
  go_wp2_with (first
    | (go_at_call 34; refine (hno _ inferInstance).mono ?_; rintro e w' ⟨rfl, x, rfl⟩)
    | (go_at_call 23; refine (hrt _).mono ?_; rintro e w' ⟨rfl, x, rfl⟩))
  go_ret2
  exact ⟨rfl, mkI⟩
set_option maxHeartbeats 16000000 in
set_option maxRecDepth 100000 in
/-- An event that is earlier than the last one is not taken. -/
theorem put_back (w : World) (R G size : Nat) (l : List Ev) (h : Ring w R G size l) (e : Ev) (eb : EvB e) (hri : e.right = true) (p : Ev) (hp : l.getLast? = some p) (hpe : e.n < p.n) :
    Gives Tryz.prog 12 #[.pointer (some ⟨R, 0, none⟩), e.val] w (.tuple #[.int .i64 0, .int .i64 411]) := by
  have hl1 : 1 ≤ l.length := by
    rcases Nat.eq_zero_or_pos l.length with h0 | h0
    · rw [List.length_eq_zero_iff] at h0; subst h0; simp at hp
    · exact h0
  obtain ⟨t, hl⟩ : ∃ t, l.length = t + 1 := ⟨l.length - 1, by omega⟩
  rw [List.getLast?_eq_getElem?, hl, Nat.add_sub_cancel] at hp
  have c1 := h.c1
  have ll := h.len
  have hev := h.ev t p hp (by have := h.s0; omega) 0 _ rfl
  rw [Nat.add_zero] at hev
  have hbk : decide (e.n < p.n) = true := by simpa using hpe
  have hat0 : ∀ w', UpI w w' → Gives Tryz.prog 35 #[.pointer (some ⟨R, 0, none⟩), .int .i64 (t : Int)] w' (.pointer (some ⟨G, t % size * 8, none⟩)) := fun w' hu => ring_at w' R G size l t (h.up hu.up) (by omega)
  generalize t % size * 8 = g0 at *
  clear hp hpe
  generalize p.n = pn at *
  have hno : ∀ w', UpI w w' → Gives Tryz.prog 34 #[.pointer (some ⟨R, 0, none⟩)] w' (.bool false) := fun w' hu => ring_none w' R G size l (h.up hu.up)
  haveI : LtSize R w := ⟨h.ltR⟩
  haveI : LtSize G w := ⟨h.ltG⟩
  rw [hl] at c1
  rw [Int.natCast_add, Int.natCast_one] at c1
  have t0 : (0 : Int) < (t : Int) + 1 := by omega
  have t1 : (t : Int) + 1 ≤ 1000000 := by omega
  have t2 : (t : Int) + 1 - 1 = (t : Int) := by omega
  obtain ⟨n, sd, r, pr, s, d, sp, dp⟩ := e
  have hrt : ∀ w', Gives Tryz.prog 23 #[.agg #[.int .i64 n, .int .u8 sd, .int .u8 r, .int .u8 pr, .int .u32 s, .int .u32 d, .int .u16 sp, .int .u16 dp]] w' (.bool true) := fun w' => (tright_any n sd r pr s d sp dp w' eb.sd0 eb.sd1 eb.r0 eb.r1).cast (by rw [show rightEv n sd r pr s d sp dp = true from hri])
  clear hl h hri eb ll hl1
  generalize (t : Int) = t' at *
  simp only at hbk
  unfold Gives Ev.val
  go_enter Tryz.func12, Tryz.ntmps12
  go_wp2_with (first
    | (go_at_call 34; refine (hno _ inferInstance).mono ?_; rintro e w' ⟨rfl, x, rfl⟩)
    | (go_at_call 23; refine (hrt _).mono ?_; rintro e w' ⟨rfl, x, rfl⟩))
  (refine wp_region_ext (by kernel_rfl) (by kernel_rfl) ?_; (repeat (go_big_quiet_step ((go_at_call 35; exact (hat0 _ inferInstance).ext)))); refine wpQuiet_nil ?_; rintro _ ⟨y, rfl⟩)
  go_wp2_with fail
  go_ret2
  exact ⟨rfl, mkI⟩
end Go.Proofs.YtdebpdjkkblcfaaGreatDoor
