/- Package dump: is a dump right; the texts of a dump. -/
import Derived.Test.YtbojbnpafoaljaaDoorDD
import Derived.Test.YtbojbnpafoaljaaDoorRow
import Derived.Test.YtbojbnpafoaljaaDoorDiff
namespace Go.Ab
open Go.RowKit Go.Proofs.YtbojbnpafoaljaaDoor
def LnRow (w : World) (v : Value) (l : List Ln) : Prop := RowOf Ln.cells 11 w v l
def strCells (l : List (List UInt8)) : List Value := l.map fun x => .string ⟨x.toArray⟩
theorem ext_right_false {l : List Ln} {k : Nat} {x : Ln} (hx : l[k]? = some x) (h : x.right = false) : okAt l k = false := by
  unfold okAt; rw [hx]; simp [h]
end Go.Ab
namespace Go.Proofs.YtbojbnpafoaljaaDoor
open Go.RowKit Go.Ab
set_option maxHeartbeats 16000000 in
set_option maxRecDepth 100000 in
theorem dordered_any (l : List Ln) (v : Value) (w : World) (hv : LnRow w v l) (hb : ∀ x ∈ l, LnB x) (hl : l.length ≤ 1000000000) : Gives Tryd.prog 20 #[v] w (.bool (orderedL l)) := by
  obtain ⟨p, cap, rfl, hle, hc⟩ := hv
  obtain ⟨N, hN⟩ : ∃ N, l.length = N := ⟨_, rfl⟩
  rw [hN] at hle hl ⊢
  have HN := Lib.hid hN
  have Hc := Lib.hid hc
  have Hb := Lib.hid hb
  clear hN hc hb
  unfold Gives
  go_enter Tryd.func20, Tryd.ntmps20
  go_wp2_with fail
  go_loopw [7] (fun i wr => ∃ k : Nat, k ≤ N ∧ i = .int .i64 (k : Int) ∧ Hid (∀ j, j < k → okAt l j = true) ∧ ∃ x : Ext w, wr = x.w) (fun i _ => N - (intOf i).toNat)
  case atStart => exact ⟨0, Nat.zero_le _, rfl, Lib.hid (fun j hj => absurd hj (Nat.not_lt_zero j)), (Up.refl w).mk⟩
  case round =>
    obtain ⟨k, hk, rfl, Hk, x0, rfl⟩ := hrel
    by_cases hlt : k < N
    · have hlt' : (k : Int) < (N : Int) := by omega
      have k0 : (0 : Int) ≤ (k : Int) := by omega
      obtain ⟨x, hx⟩ : ∃ x, l[k]? = some x := ⟨_, List.getElem?_eq_getElem (by rw [HN.out]; exact hlt)⟩
      obtain ⟨b, o, rfl, hbw, hcc⟩ := Hc.out k x hx
      have c0 := hcc 0 _ rfl; have c1 := hcc 1 _ rfl; have c2 := hcc 2 _ rfl; have c3 := hcc 3 _ rfl; have c4 := hcc 4 _ rfl; have c5 := hcc 5 _ rfl; have c6 := hcc 6 _ rfl; have c7 := hcc 7 _ rfl; have c8 := hcc 8 _ rfl; have c9 := hcc 9 _ rfl; have c10 := hcc 10 _ rfl
      rw [Nat.add_zero] at c0
      haveI : LtSize b w := ⟨hbw⟩
      have xb := Hb.out x (List.mem_of_getElem? hx)
      have hR := fun w => dright_any x w xb
      have Hx := Lib.hid hx
      unfold Ln.val at hR
      clear hcc hx
      cases hr : x.right
      · have E := Lib.hid (ordered_no (k := k) (by rw [HN.out]; exact hlt) (ext_right_false Hx.out hr))
        rw [hr] at hR
        clear hr xb Hx
        go_wp2_with fail
        (refine wp_region_ext (by kernel_rfl) (by kernel_rfl) ?_; (repeat (go_big_quiet_step ((go_at_call 34; exact (hR _).ext)))); refine wpQuiet_nil ?_; rintro _ ⟨y, rfl⟩)
        go_wp2_with fail
        go_ret
        exact ⟨ret_bool E.out.symm, mkI⟩
      · rw [hr] at hR
        rcases Nat.eq_zero_or_pos k with hk0 | hk0
        · have E := Lib.hid (show okAt l k = true by subst hk0; rw [okAt_zero l x Hx.out]; exact hr)
          have hkz : decide (0 < k) = false := decide_eq_false (by omega)
          clear hr xb Hx hk0
          go_wp2_with fail
          (refine wp_region_ext (by kernel_rfl) (by kernel_rfl) ?_; (repeat (go_big_quiet_step ((go_at_call 34; exact (hR _).ext)))); refine wpQuiet_nil ?_; rintro _ ⟨y, rfl⟩)
          go_wp2_with fail
          go_roundw
          case rel => exact ⟨k + 1, by omega, by go_num, Lib.hid (fun j hj => by rcases Nat.lt_or_eq_of_le (Nat.le_of_lt_succ hj) with h | h; exact Hk.out j h; rw [h]; exact E.out), mkI⟩
          case measure => simp [intOf]; omega
        · obtain ⟨m, hm⟩ : ∃ m : Nat, k = m + 1 := ⟨k - 1, by omega⟩
          have hkp : (0 : Int) < (k : Int) := by omega
          have hkm : (k : Int) - 1 = (m : Int) := by omega
          have hm0 : (0 : Int) ≤ (m : Int) := by omega
          have hmN : (m : Int) < (N : Int) := by omega
          obtain ⟨y, hy⟩ : ∃ y, l[m]? = some y := ⟨_, List.getElem?_eq_getElem (by rw [HN.out]; omega)⟩
          obtain ⟨b', o', hp', _, hcy⟩ := Hc.out m y hy
          simp only [Option.some.injEq, Addr.mk.injEq, and_true] at hp'
          obtain ⟨rfl, rfl⟩ := hp'
          have d0 := hcy 0 _ rfl; have d1 := hcy 1 _ rfl; have d2 := hcy 2 _ rfl; have d3 := hcy 3 _ rfl; have d4 := hcy 4 _ rfl
          rw [Nat.add_zero] at d0
          have yb := Hb.out y (List.mem_of_getElem? hy)
          obtain ⟨C, hC⟩ : ∃ C, y.cmp x = C := ⟨_, rfl⟩
          have hcm := fun w => cmpK y.pr y.s y.d y.sp y.dp x.pr x.s x.d x.sp x.dp C w yb.key xb.key (Lib.hid hC)
          have EQ := Lib.hid (show okAt l k = decide (C < 0) by subst hm; rw [okAt_succ l m x y Hx.out hy, hr, Bool.true_and, hC])
          have hwm : wrap64 (m : Int) = (m : Int) := wrap_len m N (by omega) hl
          clear hcy hy hC xb yb Hx hm hr
          by_cases hC0 : C < 0
          · have E := Lib.hid (show okAt l k = true by rw [EQ.out]; exact decide_eq_true hC0)
            clear EQ
            go_wp2_with fail
            (refine wp_region_ext (by kernel_rfl) (by kernel_rfl) ?_; (repeat (go_big_quiet_step ((first
              | (go_at_call 34; exact (hR _).ext)
              | (go_at_call 22; exact (hcm _).ext))))); refine wpQuiet_nil ?_; rintro _ ⟨y1, rfl⟩)
            go_wp2_with fail
            go_roundw
            case rel => exact ⟨k + 1, by omega, by go_num, Lib.hid (fun j hj => by rcases Nat.lt_or_eq_of_le (Nat.le_of_lt_succ hj) with h | h; exact Hk.out j h; rw [h]; exact E.out), mkI⟩
            case measure => simp [intOf]; omega
          · have hC1 : 0 ≤ C := by omega
            have E := Lib.hid (ordered_no (l := l) (k := k) (by rw [HN.out]; exact hlt) (by rw [EQ.out]; exact decide_eq_false hC0))
            clear EQ hC0
            go_wp2_with fail
            (refine wp_region_ext (by kernel_rfl) (by kernel_rfl) ?_; (repeat (go_big_quiet_step ((first
              | (go_at_call 34; exact (hR _).ext)
              | (go_at_call 22; exact (hcm _).ext))))); refine wpQuiet_nil ?_; rintro _ ⟨y1, rfl⟩)
            go_wp2_with fail
            go_ret
            exact ⟨ret_bool E.out.symm, mkI⟩
    · have hlt' : (N : Int) ≤ (k : Int) := by omega
      have E := Lib.hid (ordered_yes (l := l) (fun j hj => Hk.out j (by rw [HN.out] at hj; omega)))
      clear hk hlt
      go_wp2_with fail
      go_ret
      exact ⟨ret_bool E.out.symm, mkI⟩
theorem infoStr1 : (Tryd.prog.info? 9).map (fun i => (i.zero, i.size, i.bytes)) = some (some (.string ⟨#[]⟩), 1, 16) := by kernel_rfl
set_option maxHeartbeats 4000000 in
set_option maxRecDepth 100000 in
theorem dtexts_no (l : List Ln) (v : Value) (w : World) (hv : LnRow w v l) (hb : ∀ x ∈ l, LnB x) (hl : l.length ≤ 1000000000) (h : orderedL l = false) : Gives Tryd.prog 9 #[v] w (.tuple #[.slice none 0 0, .int .i64 383]) := by
  have ho := fun (W : World) (u : UpI w W) => (dordered_any l v W (hv.up u.up) hb hl).cast (by rw [h])
  clear hv hb h
  unfold Gives
  go_enter Tryd.func9, Tryd.ntmps9
  go_wp2_with (go_at_call 20; refine (ho _ inferInstance).mono ?_; rintro e w' ⟨rfl, x, rfl⟩)
  go_ret2
  exact ⟨rfl, mkI⟩
set_option maxHeartbeats 16000000 in
set_option maxRecDepth 100000 in
theorem dtexts_yes (l : List Ln) (v : Value) (w : World) (g : GoodD w) (hv : LnRow w v l) (hb : ∀ x ∈ l, LnB x) (hl : l.length ≤ 1000000) (h : orderedL l = true) :
    Calls Tryd.prog 9 #[v] w fun e w' => ∃ u, e = .returned (.tuple #[u, .int .i64 0]) ∧ w'.ownsRow w.heap.size 9 1 u l.length (strCells (l.map Ln.text)) ∧ ∃ x : Ext w, w' = x.w := by
  have ho := fun (W : World) (u : UpI w W) => (dordered_any l v W (hv.up u.up) hb (by omega)).cast (by rw [h])
  have htx : ∀ x ∈ l, ∀ W, GoodD W → Gives Tryd.prog 21 #[x.val] W (.tuple #[.string ⟨x.text.toArray⟩, .int .i64 0]) := fun x hx W g => (dtext_any x W g (hb x hx)).cast (by unfold textE; rw [if_pos (ordered_right h hx)])
  obtain ⟨p, cap, rfl, hle, hc⟩ := hv
  obtain ⟨N, hN⟩ : ∃ N, l.length = N := ⟨_, rfl⟩
  rw [hN] at hle hl ho ⊢
  have HN := Lib.hid hN
  have Hc := Lib.hid hc
  have Ht := Lib.hid htx
  obtain ⟨i0, hi, hy0, hy1, hy2⟩ := info_parts infoStr1
  have Hi := Lib.hid hi; have Hy0 := Lib.hid hy0; have Hy1 := Lib.hid hy1; have Hy2 := Lib.hid hy2
  clear hN hc hb htx h hi hy0 hy1 hy2
  go_enter Tryd.func9, Tryd.ntmps9
  go_wp2_with (go_at_call 20; refine (ho _ inferInstance).mono ?_; rintro e w' ⟨rfl, x, rfl⟩)
  go_loopw [4, 14] (fun out i wr => ∃ k : Nat, k ≤ N ∧ i = .int .i64 (k : Int) ∧ Hid (wr.ownsRow w.heap.size 9 1 out k (strCells ((l.take k).map Ln.text))) ∧ ∃ x : Ext w, wr = x.w) (fun _ i _ => N - (intOf i).toNat)
  case atStart => exact ⟨0, Nat.zero_le _, rfl, Lib.hid (World.ownsRow_nil _ _ _ _), mkI⟩
  case round =>
    clear x ho
    obtain ⟨k, hk, rfl, Hown, x0, rfl⟩ := hrel
    by_cases hlt : k < N
    · have hlt' : (k : Int) < (N : Int) := by omega
      have k0 : (0 : Int) ≤ (k : Int) := by omega
      obtain ⟨x, hx⟩ : ∃ x, l[k]? = some x := ⟨_, List.getElem?_eq_getElem (by rw [HN.out]; exact hlt)⟩
      obtain ⟨b, o, rfl, hbw, hcc⟩ := Hc.out k x hx
      have c0 := hcc 0 _ rfl; have c1 := hcc 1 _ rfl; have c2 := hcc 2 _ rfl; have c3 := hcc 3 _ rfl; have c4 := hcc 4 _ rfl; have c5 := hcc 5 _ rfl; have c6 := hcc 6 _ rfl; have c7 := hcc 7 _ rfl; have c8 := hcc 8 _ rfl; have c9 := hcc 9 _ rfl; have c10 := hcc 10 _ rfl
      rw [Nat.add_zero] at c0
      haveI : LtSize b w := ⟨hbw⟩
      have h1 := Ht.out x (List.mem_of_getElem? hx)
      have E2 := Lib.hid (show strCells ((l.take (k + 1)).map Ln.text) = strCells ((l.take k).map Ln.text) ++ [.string ⟨x.text.toArray⟩] by rw [take_snoc3 l k x hx]; simp [strCells])
      unfold Ln.val at h1
      generalize x.text = tx at *
      generalize strCells ((l.take k).map Ln.text) = cs at *
      clear hcc hx
      go_wp2_with (first
        | (go_at_call 21; refine (h1 _ (g.up upI)).mono ?_; rintro e w' ⟨rfl, z, rfl⟩)
        | (at_builtin; refine wpList_append_own _ rfl _ _ 24 rfl w.heap.size 9 i0 (.string ⟨#[]⟩) 1 16 Tryd.underlying24 Hi.out Hy0.out Hy1.out Hy2.out rfl (by decide) _ _ _ rfl (owns_up Hown.out (upI : Up x0.w _)) ⟨_, 0, none⟩ 1 1 [.string ⟨tx.toArray⟩] rfl rfl ?c1 ?c2 ?c3 ?c4 ?c5 ?_))
      case c1 => exact cell_one_new _ _ _
      case c2 => simp [Value.oneCell']
      case c3 => unfold maxLen; omega
      case c4 => omega
      case c5 => exact (upI : Up w _).size
      intro v' w1 hown' hgrow _
      have hu1 : Up w w1 := Up.grown (upI : Up w _) hgrow (owns_row Hown.out)
      obtain ⟨x1, rfl⟩ := hu1.mk
      have Hown' := Lib.hid hown'
      clear hown' hgrow Hown h1 hu1
      go_wp2_with fail
      go_roundw
      case rel => exact ⟨k + 1, by omega, by go_num, by rw [E2.out]; exact Hown', mkI⟩
      case measure => simp [intOf]; omega
    · obtain rfl : k = N := by omega
      have e : l.take k = l := List.take_of_length_le (by rw [HN.out]; omega)
      rw [e] at Hown
      go_wp2_with fail
      go_ret2
      exact ⟨_, rfl, Hown.out, mkI⟩
end Go.Proofs.YtbojbnpafoaljaaDoor
