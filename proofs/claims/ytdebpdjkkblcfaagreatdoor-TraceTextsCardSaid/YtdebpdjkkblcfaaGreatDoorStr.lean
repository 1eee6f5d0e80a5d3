/- Go's library at this translation: Itoa, Atoi, Cut, Split, Join, said of worlds that grow; what of the package-level variables the calls read ('Good'). -/
import Derived.Test.YtdebpdjkkblcfaaGreatDoorShelf
import Derived.Test.YtdebpdjkkblcfaaGreatDoorBase
import Derived.Test.YtdebpdjkkblcfaaGreatDoorStrPlain
import Derived.Lib.AppendIntMem
namespace Go.Ab
open Go.RowKit Go.Sort
theorem up_grow {w W : World} (h : Up w W) (os : Array Obj) : Up w (grow W os) :=
  Up.trans h ⟨rfl, rfl, rfl, by simp [grow], fun _ hk => heap_grow_old W os hk⟩
theorem up_drewN {w W : World} (h : Up w W) (n : Nat) : Up w (W.drewN n) := Up.trans h ⟨rfl, rfl, rfl, Nat.le_refl _, fun _ _ => rfl⟩
theorem up_bytes (w : World) (e : TypeId) (s : ByteArray) : Up w (Lib.bytesWorld w e s) :=
  ⟨by unfold Lib.bytesWorld World.freeze; rw [if_neg (by decide)]; rfl, by unfold Lib.bytesWorld World.freeze; rw [if_neg (by decide)]; rfl, by unfold Lib.bytesWorld World.freeze; rw [if_neg (by decide)]; rfl,
    by rw [Lib.bytesWorld_size]; omega, fun k hk => Lib.bytesWorld_at_old w e s k hk⟩
theorem cell_lt {w : World} {a : Addr} {v : Value} (h : w.cell? a = some v) : a.block < w.heap.size := by
  rcases Nat.lt_or_ge a.block w.heap.size with h1 | h1
  · exact h1
  · unfold World.cell? at h
    rw [Array.getElem?_eq_none h1] at h
    cases h
theorem Up.cell_some {w W : World} (h : Up w W) {a : Addr} {v : Value} (hc : w.cell? a = some v) : W.cell? a = some v := (Below.cell h (cell_lt hc)).trans hc
/-- What strconv.Atoi's number is, whatever the string; and whether there is no error. -/
def atoiV (l : List UInt8) : Int := match Lib.atoiAll l with | .ok v => v | .range => Lib.atoiSat l | _ => 0
def atoiOk (l : List UInt8) : Bool := match Lib.atoiAll l with | .ok _ => true | _ => false
theorem atoiV_bounds (l : List UInt8) : -9223372036854775808 ≤ atoiV l ∧ atoiV l ≤ 9223372036854775807 := by
  unfold atoiV
  rcases h : Lib.atoiAll l with v | _ | _
  · cases l with
    | nil => cases h
    | cons c r =>
      simp only [Lib.atoiAll] at h
      rcases hm : Lib.parseMag (if c.toNat = 43 ∨ c.toNat = 45 then r else c :: r) with u | _ | _
      · rw [hm] at h
        dsimp only at h
        split at h
        · cases h
        · split at h
          · cases h
          · injection h with h
            subst h
            dsimp only
            split <;> omega
      · rw [hm] at h; cases h
      · rw [hm] at h; cases h
  · dsimp only; omega
  · dsimp only; unfold Lib.atoiSat; split <;> omega
end Go.Ab
namespace Go.Proofs.YtdebpdjkkblcfaaGreatDoor
open Go.RowKit Go.Ab

structure Good (w : World) : Prop where
  maxLen : ∃ m, w.cell? ⟨5, 0, none⟩ = some (.int .i64 m)
  syn : ∃ ev, w.cell? ⟨2, 0, none⟩ = some ev ∧ (ev = .nilIface ∨ ∃ te pe, ev = .iface te pe)
  ran : ∃ ev, w.cell? ⟨3, 0, none⟩ = some ev ∧ (ev = .nilIface ∨ ∃ te pe, ev = .iface te pe)
  tab : Lib.TabIs Tryz.prog w "internal/strconv.uint64pow10" .u64 Lib.pow10Tab
theorem Good.up {w W : World} (g : Good w) (h : Up w W) : Good W :=
  ⟨g.maxLen.imp fun _ e => h.cell_some e, g.syn.imp fun _ e => ⟨h.cell_some e.1, e.2⟩, g.ran.imp fun _ e => ⟨h.cell_some e.1, e.2⟩, Lib.tabBelow_of_tabIs g.tab W h⟩
theorem Good.ext {w : World} (g : Good w) (x : Ext w) : Good x.w := g.up x.up

theorem itoa_any (n : Int) (w : World) (g : Good w) (h0 : -9223372036854775808 ≤ n) (h1 : n ≤ 9223372036854775807) :
    Gives Tryz.prog 32 #[.int .i64 n] w (.string ⟨(Lib.itoa n).toArray⟩) :=
  (Tryz.strconv_Itoa n h0 h1 w g.tab).mono fun _ _ ⟨he, k, os, hw⟩ => ⟨he, by subst hw; exact (up_grow (up_drewN (Up.refl _) k) os).mk⟩
theorem atoi_okB (s : ByteArray) (w : World) (hs : s.size ≤ 281474976710656) (h : atoiOk s.data.toList = true) :
    Gives Tryz.prog 43 #[.string s] w (.tuple #[.int .i64 (atoiV s.data.toList), .nilIface]) := by
  rcases hc : Lib.atoiAll s.data.toList with v | _ | _
  · have e : atoiV s.data.toList = v := by unfold atoiV; rw [hc]
    rw [e]
    refine (Tryz.strconv_Atoi_ok s (by omega) v hc w).mono fun _ w' ⟨he, hw⟩ => ⟨he, ?_⟩
    rcases hw with rfl | ⟨t, rfl⟩
    · exact (Up.refl _).mk
    · exact (up_bytes w _ t).mk
  · unfold atoiOk at h; rw [hc] at h; cases h
  · unfold atoiOk at h; rw [hc] at h; cases h
theorem atoi_badB (s : ByteArray) (w : World) (g : Good w) (hs : s.size ≤ 281474976710656) (h : atoiOk s.data.toList = false) :
    Calls Tryz.prog 43 #[.string s] w fun e w' =>
      ∃ N, e = .returned (.tuple #[.int .i64 (atoiV s.data.toList), .iface 143 (.pointer (some ⟨N, 0, none⟩))]) ∧ ∃ x : Ext w, w' = x.w := by
  rcases hc : Lib.atoiAll s.data.toList with v | _ | _
  · unfold atoiOk at h; rw [hc] at h; cases h
  · have e : atoiV s.data.toList = 0 := by unfold atoiV; rw [hc]
    rw [e]
    obtain ⟨ev, hv, hev⟩ := g.syn
    exact (Any.strconv_Atoi_syntax Tryz.laysC172 s hs hc ev w hv hev).mono fun _ w' ⟨N, he, _, _, hb⟩ => ⟨N, he, Up.mk hb⟩
  · have e : atoiV s.data.toList = Lib.atoiSat s.data.toList := by unfold atoiV; rw [hc]
    rw [e]
    obtain ⟨ev, hv, hev⟩ := g.ran
    exact (Any.strconv_Atoi_range Tryz.laysC172 s hs hc ev w hv hev).mono fun _ w' ⟨N, he, _, _, hb⟩ => ⟨N, he, Up.mk hb⟩
theorem atoi_ok (l : List UInt8) (w : World) (hs : l.length ≤ 281474976710656) (h : atoiOk l = true) :
    Gives Tryz.prog 43 #[.string ⟨l.toArray⟩] w (.tuple #[.int .i64 (atoiV l), .nilIface]) := atoi_okB ⟨l.toArray⟩ w hs h
theorem atoi_bad (l : List UInt8) (w : World) (g : Good w) (hs : l.length ≤ 281474976710656) (h : atoiOk l = false) :
    Calls Tryz.prog 43 #[.string ⟨l.toArray⟩] w fun e w' =>
      ∃ N, e = .returned (.tuple #[.int .i64 (atoiV l), .iface 143 (.pointer (some ⟨N, 0, none⟩))]) ∧ ∃ x : Ext w, w' = x.w := atoi_badB ⟨l.toArray⟩ w g hs h
theorem scut_any (l sep : List UInt8) (w : World) (g : Good w) (hs : l.length < 4294967281) :
    Gives Tryz.prog 70 #[.string ⟨l.toArray⟩, .string ⟨sep.toArray⟩] w
      (.tuple #[.string ⟨(Lib.cut l sep).1.toArray⟩, .string ⟨(Lib.cut l sep).2.1.toArray⟩, .bool (Lib.cut l sep).2.2]) := by
  obtain ⟨m, hm⟩ := g.maxLen
  exact Gives.of_drewN (Tryz.strings_Cut ⟨l.toArray⟩ ⟨sep.toArray⟩ m w hs hm)
theorem scut1_any (l : List UInt8) (c : UInt8) (w : World) (g : Good w) (hs : l.length < 4294967281) :
    Gives Tryz.prog 70 #[.string ⟨l.toArray⟩, .string ⟨#[c]⟩] w (.tuple #[.string ⟨(cutC c l).1.toArray⟩, .string ⟨(cutC c l).2.1.toArray⟩, .bool (cutC c l).2.2]) := by
  have h := scut_any l [c] w g hs
  rw [cut_eq] at h
  exact h
theorem scut_anyB (s sep : ByteArray) (w : World) (g : Good w) (hs : s.size < 4294967281) :
    Gives Tryz.prog 70 #[.string s, .string sep] w
      (.tuple #[.string ⟨(Lib.cut s.data.toList sep.data.toList).1.toArray⟩, .string ⟨(Lib.cut s.data.toList sep.data.toList).2.1.toArray⟩, .bool (Lib.cut s.data.toList sep.data.toList).2.2]) := by
  obtain ⟨m, hm⟩ := g.maxLen
  exact Gives.of_drewN (Tryz.strings_Cut s sep m w hs hm)

/-- strings.Join at a slice of the call's own. -/
theorem join_own (v : Value) (n base : Nat) (xs : List ByteArray) (sep : ByteArray) (w : World) (hown : w.ownsRow base 9 1 v n (xs.map Value.string))
    (hn : n ≤ 140737488355328) (hlen : (Lib.join (xs.map (·.data.toList)) sep.data.toList).length ≤ 140737488355328) :
    Gives Tryz.prog 40 #[v, .string sep] w (.string ⟨(Lib.join (xs.map (·.data.toList)) sep.data.toList).toArray⟩) := by
  have hl : xs.length = n := by have := hown.1; simpa using this
  rcases Nat.eq_zero_or_pos n with h0 | h0
  · subst h0
    have hx : xs = [] := List.eq_nil_of_length_eq_zero hl
    subst hx
    obtain ⟨_, ⟨rfl, _⟩ | ⟨g, cap, cur, rfl, _⟩⟩ := hown
    · exact Gives.of_same (Tryz.strings_Join_none none 0 sep w)
    · exact Gives.of_same (Tryz.strings_Join_none (some ⟨g, 0, none⟩) cap sep w)
  · obtain ⟨g, cap, rfl, _, hg, hc, hcell⟩ := owns_cells hown h0
    subst hl
    refine Gives.of_below (Tryz.strings_Join g 0 cap xs sep w (fun j x hx => ?_) hg hn hc hlen)
    rw [Nat.zero_add]
    exact hcell j _ (by simp [hx])

/-- strings.Split at one byte. -/
theorem split_any (l : List UInt8) (c : UInt8) (w : World) (g : Good w) (hs : l.length < 4294967281) :
    Calls Tryz.prog 92 #[.string ⟨l.toArray⟩, .string ⟨#[c]⟩] w fun e w' =>
      e = .returned (.slice (some ⟨w.heap.size, 0, none⟩) (splitC c l).length (splitC c l).length) ∧ w' = w.alloc (.cells ((splitC c l).map fun p => Value.string ⟨p.toArray⟩).toArray 9) := by
  obtain ⟨m, hm⟩ := g.maxLen
  have h := Tryz.strings_Split ⟨l.toArray⟩ ⟨#[c]⟩ m w hs hm (Nat.le_refl 1)
  rw [splitB_eq, countB_eq] at h
  exact h
end Go.Proofs.YtdebpdjkkblcfaaGreatDoor
