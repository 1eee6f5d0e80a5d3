/- The laws' own lists of events: plain facts; slices of small numbers. -/
import Derived.Test.YtdebpdjkkblcfaaDoorMade
import Derived.Test.YtdebpdjkkblcfaaDoorEqual
import Derived.Laws.AppendOwn
import Derived.Test.YtdebpdjkkblcfaaDoorPExt
namespace Go.Ab
open Go.RowKit Go.Proofs.YtdebpdjkkblcfaaDoor
def Sm.cells (x : Sm) : List Value := [.int .u8 x.a, .int .u8 x.sd, .int .u8 x.r, .int .u8 x.p, .int .u32 x.s, .int .u32 x.d, .int .u16 x.sp, .int .u16 x.dp]
/-- A slice that came in, whose elements have k cells each. -/
def ArgRow (w : World) (v : Value) (n k : Nat) (cs : Nat → Nat → Option Value) : Prop :=
  (v = .slice none 0 0 ∧ n = 0) ∨ ∃ b o s cap, v = .slice (some ⟨b, o, s⟩) n cap ∧ n ≤ cap ∧ cap ≤ maxLen ∧ (0 < n → s = none ∧ b < w.heap.size ∧ ∀ i, i < n → ∀ j u, cs i j = some u → w.cell? ⟨b, o + i * k + j, none⟩ = some u)
def SmRow (w : World) (v : Value) (l : List Sm) : Prop := ArgRow w v l.length 8 fun i j => (l[i]?).bind fun x => x.cells[j]?
/-- The time behind some events. -/
def endN (n : Int) (l : List Sm) : Int := l.foldl (fun n x => (madeE n x).n) n
def madeFrom : Int → List Sm → List Ev
  | _, [] => []
  | n, x :: t => madeE n x :: madeFrom (madeE n x).n t
/-- The events of small numbers, in the order of their times. -/
def madeL (now : Int) (l : List Sm) : List Ev := madeFrom (now % 1073741824) (l.take 80)
theorem endN_snoc (n : Int) (l : List Sm) (x : Sm) : endN n (l ++ [x]) = (madeE (endN n l) x).n := by simp [endN]
theorem madeFrom_snoc : ∀ (l : List Sm) (n : Int) (x : Sm), madeFrom n (l ++ [x]) = madeFrom n l ++ [madeE (endN n l) x]
  | [], _, _ => rfl
  | y :: t, n, x => by
    rw [List.cons_append, madeFrom, madeFrom, madeFrom_snoc t _ x]
    rfl
theorem madeFrom_length : ∀ (l : List Sm) (n : Int), (madeFrom n l).length = l.length
  | [], _ => rfl
  | _ :: t, _ => by rw [madeFrom, List.length_cons, madeFrom_length t, List.length_cons]
theorem madeL_length (now : Int) (l : List Sm) : (madeL now l).length = min l.length 80 := by
  unfold madeL; rw [madeFrom_length, List.length_take]; omega
theorem endN_bd : ∀ (l : List Sm) (n : Int), n ≤ endN n l ∧ endN n l ≤ n + 3 * l.length
  | [], n => by simp [endN]
  | x :: t, n => by
    have h := endN_bd t (madeE n x).n
    have e : endN n (x :: t) = endN (madeE n x).n t := rfl
    rw [e]
    rw [madeE_n] at h ⊢
    rw [List.length_cons]
    omega
/-- Events that are right, one behind the other. -/
structure EvsOk (l : List Ev) : Prop where
  b : ∀ e ∈ l, EvB e
  r : ∀ e ∈ l, e.right = true
  t : ∀ k e, l[k]? = some e → takes (l.take k) e
theorem madeFrom_n : ∀ (l : List Sm) (n : Int) (e : Ev), e ∈ madeFrom n l → n ≤ e.n ∧ e.n ≤ n + 3 * l.length
  | [], _, _, h => by cases h
  | x :: t, n, e, h => by
    rw [madeFrom] at h
    rw [List.length_cons]
    rcases List.mem_cons.1 h with rfl | h
    · rw [madeE_n]; omega
    · have := madeFrom_n t _ e h
      rw [madeE_n] at this
      omega
theorem takes_le (l : List Ev) (e : Ev) (h : ∀ p ∈ l, p.n ≤ e.n) : takes l e := fun p hp => h p (List.mem_of_getLast? hp)
theorem madeFrom_sorted : ∀ (l : List Sm) (n : Int) (i j : Nat) (a b : Ev), i ≤ j → (madeFrom n l)[i]? = some a → (madeFrom n l)[j]? = some b → a.n ≤ b.n
  | [], _, _, _, _, _, _, h, _ => by simp [madeFrom] at h
  | x :: t, n, i, j, a, b, hij, ha, hb => by
    rw [madeFrom] at ha hb
    rcases i with _ | i
    · simp only [List.getElem?_cons_zero, Option.some.injEq] at ha
      subst ha
      rcases j with _ | j
      · simp only [List.getElem?_cons_zero, Option.some.injEq] at hb
        subst hb; omega
      · rw [List.getElem?_cons_succ] at hb
        exact (madeFrom_n t _ b (List.mem_of_getElem? hb)).1
    · rcases j with _ | j
      · omega
      · rw [List.getElem?_cons_succ] at ha hb
        exact madeFrom_sorted t _ i j a b (by omega) ha hb
theorem madeFrom_ok : ∀ (l : List Sm) (n : Int), (∀ x ∈ l, SmB x) → 0 ≤ n → n + 3 * l.length ≤ 1099511627773 → ∀ e ∈ madeFrom n l, EvB e ∧ e.right = true
  | [], _, _, _, _, e, h => by cases h
  | x :: t, n, hx, h0, h1, e, h => by
    rw [List.length_cons] at h1
    rw [madeFrom] at h
    rcases List.mem_cons.1 h with rfl | h
    · exact ⟨madeE_b n x (hx x (by simp)) (by omega) (by omega), madeE_r n x h0 (by omega)⟩
    · refine madeFrom_ok t _ (fun y hy => hx y (by simp [hy])) ?_ ?_ e h
      · rw [madeE_n]; omega
      · rw [madeE_n]; omega
theorem madeL_ok (now : Int) (l : List Sm) (hx : ∀ x ∈ l, SmB x) : EvsOk (madeL now l) := by
  have hl : ((l.take 80).length : Int) ≤ 80 := by rw [List.length_take]; omega
  have h := madeFrom_ok (l.take 80) (now % 1073741824) (fun x hm => hx x (List.mem_of_mem_take hm)) (by omega) (by omega)
  refine ⟨fun e he => (h e he).1, fun e he => (h e he).2, fun k e he => takes_le _ _ fun p hp => ?_⟩
  obtain ⟨i, hi⟩ := List.getElem?_of_mem hp
  rw [List.getElem?_take] at hi
  split at hi
  · exact madeFrom_sorted _ _ i k p e (by omega) hi he
  · cases hi
end Go.Ab
namespace Go.Proofs.YtdebpdjkkblcfaaDoor
open Go.RowKit Go.Ab
set_option maxHeartbeats 8000000 in
set_option maxRecDepth 100000 in
theorem made_all (now : Int) (l : List Sm) (v : Value) (w : World) (hv : SmRow w v l) (hb : ∀ x ∈ l, SmB x) :
    Calls Tryd.prog 20 #[.int .i64 now, v] w fun e w' =>
      ∃ u, e = .returned u ∧ w'.ownsRow w.heap.size 31 8 u (madeL now l).length (evCells (madeL now l)) ∧ (madeL now l = [] → u = .slice none 0 0) ∧ ∃ x : Ext w, w' = x.w := by
  have hmd := fun w => modulo_any now 1073741824 w (by omega) (by omega)
  unfold madeL
  have hn0 : 0 ≤ now % 1073741824 := by omega
  have hn1 : now % 1073741824 < 1073741824 := by omega
  generalize now % 1073741824 = n0 at *
  obtain ⟨i0, hi, hy0, hy1, hy2⟩ := info_parts infoEvent
  have Hi := Lib.hid hi; have Hy0 := Lib.hid hy0; have Hy1 := Lib.hid hy1; have Hy2 := Lib.hid hy2
  clear hi hy0 hy1 hy2
  obtain ⟨L, hL⟩ : ∃ L, L = l.take 80 := ⟨_, rfl⟩
  have hLn : L.length = min l.length 80 := by rw [hL, List.length_take]; omega
  have hLb : ∀ x ∈ L, SmB x := by rw [hL]; exact fun x hm => hb x (List.mem_of_mem_take hm)
  have hLat : ∀ k x, L[k]? = some x → l[k]? = some x := fun k x h => by
    rw [hL, List.getElem?_take] at h
    split at h
    · exact h
    · cases h
  rw [← hL]
  clear hL hb
  obtain ⟨N, hN⟩ : ∃ N, L.length = N := ⟨_, rfl⟩
  rw [hN] at hLn
  have hN80 : N ≤ 80 := by omega
  have HN := Lib.hid hN
  have HLn := Lib.hid hLn
  have HLb := Lib.hid hLb
  have HLat := Lib.hid hLat
  clear hN hLb hLat
  have hmin : min (l.length : Int) 80 = (N : Int) := by omega
  unfold SmRow ArgRow at hv
  rcases hv with ⟨rfl, hl0⟩ | ⟨b, o, s, cap, rfl, hcap, hcm, hc⟩
  · obtain rfl : N = 0 := by omega
    clear hmin hLn hl0
    go_enter Tryd.func20, Tryd.ntmps20
    go_wp2_with (first
      | (go_at_call 10; refine (hmd _).mono ?_; rintro e w' ⟨rfl, x, rfl⟩))
    go_loopw [0, 5, 17] (fun now out i wr => ∃ k : Nat, k ≤ 0 ∧ i = .int .i64 (k : Int) ∧ now = .int .i64 (endN n0 (L.take k)) ∧ Hid (wr.ownsRow w.heap.size 31 8 out k (evCells (madeFrom n0 (L.take k)))) ∧ Hid (k = 0 → out = .slice none 0 0) ∧ ∃ x : Ext w, wr = x.w) (fun _ _ i _ => 0)
    case atStart => exact ⟨0, Nat.zero_le _, rfl, rfl, Lib.hid (World.ownsRow_nil _ _ _ _), Lib.hid (fun _ => rfl), mkI⟩
    case round =>
      obtain ⟨k, hk, rfl, rfl, Hown, H0, x, rfl⟩ := hrel
      by_cases hlt : k < 0
      · omega
      · obtain rfl : k = 0 := by omega
        go_wp2_with fail
        go_ret
        have e : L.take 0 = L := List.take_of_length_le (by rw [HN.out]; omega)
        rw [e] at Hown
        exact ⟨_, rfl, by rw [madeFrom_length, HN.out]; exact Hown.out, fun _ => H0.out trivial, mkI⟩
  · unfold maxLen at hcm
    have hcap2 : N ≤ cap := by omega
    have Hc := Lib.hid hc
    clear hc hLn hcap
    go_enter Tryd.func20, Tryd.ntmps20
    go_wp2_with (first
      | (go_at_call 10; refine (hmd _).mono ?_; rintro e w' ⟨rfl, x, rfl⟩))
    clear hmd
    go_loopw [0, 5, 17] (fun now out i wr => ∃ k : Nat, k ≤ N ∧ i = .int .i64 (k : Int) ∧ now = .int .i64 (endN n0 (L.take k)) ∧ Hid (wr.ownsRow w.heap.size 31 8 out k (evCells (madeFrom n0 (L.take k)))) ∧ Hid (k = 0 → out = .slice none 0 0) ∧ ∃ x : Ext w, wr = x.w) (fun _ _ i _ => N - (intOf i).toNat)
    case atStart => exact ⟨0, Nat.zero_le _, rfl, rfl, Lib.hid (World.ownsRow_nil _ _ _ _), Lib.hid (fun _ => rfl), mkI⟩
    case round =>
      obtain ⟨k, hk, rfl, rfl, Hown, H0, x, rfl⟩ := hrel
      by_cases hlt : k < N
      · have hlt' : (k : Int) < (N : Int) := by omega
        obtain ⟨y, hy⟩ : ∃ y, L[k]? = some y := ⟨_, List.getElem?_eq_getElem (by rw [HN.out]; exact hlt)⟩
        have hyb := HLb.out y (List.mem_of_getElem? hy)
        have hyl := HLat.out k y hy
        obtain ⟨rfl, hbw, hcc⟩ := Hc.out (by omega)
        have hcc' := hcc k (by have := HLn.out; omega)
        rw [hyl] at hcc'
        have c0 := hcc' 0 _ rfl; have c1 := hcc' 1 _ rfl; have c2 := hcc' 2 _ rfl; have c3 := hcc' 3 _ rfl; have c4 := hcc' 4 _ rfl; have c5 := hcc' 5 _ rfl; have c6 := hcc' 6 _ rfl; have c7 := hcc' 7 _ rfl
        rw [Nat.add_zero] at c0
        haveI : LtSize b w := ⟨hbw⟩
        have hE := endN_bd (L.take k) n0
        have hEl : ((L.take k).length : Int) ≤ 80 := by rw [List.length_take]; omega
        have T1 : L.take (k + 1) = L.take k ++ [y] := take_snoc L k y hy
        have E1 := Lib.hid (show endN n0 (L.take (k + 1)) = (madeE (endN n0 (L.take k)) y).n by rw [T1, endN_snoc])
        have E2 := Lib.hid (show evCells (madeFrom n0 (L.take (k + 1))) = evCells (madeFrom n0 (L.take k)) ++ (madeE (endN n0 (L.take k)) y).cells by rw [T1, madeFrom_snoc, evCells_snoc])
        have hmk := fun w => made_any (endN n0 (L.take k)) y w hyb (by omega) (by omega)
        clear hcc hcc' T1 hy hyl hyb hE hEl
        generalize endN n0 (L.take k) = n at *
        generalize evCells (madeFrom n0 (L.take k)) = cs at *
        generalize madeE n y = E at *
        obtain ⟨ya, ysd, yr, yp, ys, yd, ysp, ydp⟩ := y
        simp only at c0 c1 c2 c3 c4 c5 c6 c7 hmk
        unfold Ev.val at hmk
        go_wp2_with (first
          | (go_at_call 11; refine (hmk _).mono ?_; rintro e w' ⟨rfl, z, rfl⟩)
          | (at_builtin; refine wpList_append_own _ rfl _ _ 49 rfl w.heap.size 31 i0 Ev.zero.val 8 32 Tryd.underlying49 Hi.out Hy0.out Hy1.out Hy2.out rfl (by decide) _ _ _ rfl (owns_up Hown.out (upI : Up x.w _)) ⟨_, 0, none⟩ 1 1 E.cells rfl rfl ?c1 ?c2 ?c3 ?c4 ?c5 ?_))
        case c1 =>
          intro j u hj
          have hj8 : j < 8 := (List.getElem?_eq_some_iff.1 hj).1
          rcases (by omega : j = 0 ∨ j = 1 ∨ j = 2 ∨ j = 3 ∨ j = 4 ∨ j = 5 ∨ j = 6 ∨ j = 7) with rfl | rfl | rfl | rfl | rfl | rfl | rfl | rfl
          all_goals (simp [Ev.cells] at hj; subst hj; simp [Addr.add, go_sem])
        case c2 =>
          intro u hu
          simp [Ev.cells] at hu
          rcases hu with rfl | rfl | rfl | rfl | rfl | rfl | rfl | rfl <;> rfl
        case c3 => unfold maxLen; omega
        case c4 => omega
        case c5 => exact (upI : Up w _).size
        intro v' w1 hown' hgrow _
        have hu1 : Up w w1 := Up.grown (upI : Up w _) hgrow (owns_row Hown.out)
        obtain ⟨x1, rfl⟩ := hu1.mk
        have Hown' := Lib.hid hown'
        clear hown' hgrow Hown H0 hmk hu1
        go_wp2_with fail
        go_roundw
        case rel => exact ⟨k + 1, by omega, by go_num, by rw [E1.out], by rw [E2.out]; exact Hown', Lib.hid (by omega), mkI⟩
        case measure => simp [intOf]; omega
      · obtain rfl : k = N := by omega
        go_wp2_with fail
        go_ret
        have e : L.take k = L := List.take_of_length_le (by rw [HN.out]; omega)
        rw [e] at Hown
        exact ⟨_, rfl, by rw [madeFrom_length, HN.out]; exact Hown.out, fun h => H0.out (by have := congrArg List.length h; rw [madeFrom_length, HN.out, List.length_nil] at this; exact this), mkI⟩
end Go.Proofs.YtdebpdjkkblcfaaDoor
namespace Go.Ab
open Go.RowKit Go.Proofs.YtdebpdjkkblcfaaDoor
theorem evb_eta (e : Ev) : Ev.mk e.n e.sd e.r e.pr e.s e.d e.sp e.dp = e := rfl
end Go.Ab
namespace Go.Proofs.YtdebpdjkkblcfaaDoor
open Go.RowKit Go.Ab
set_option maxHeartbeats 8000000 in
set_option maxRecDepth 100000 in
theorem filled_all (size : Int) (l : List Ev) (v : Value) (w : World) (hv : EvRow w v l) (hok : EvsOk l) (hl : l.length ≤ 80) (s0 : 0 ≤ size) (s1 : size < 256) (n : Nat) (hn : (n : Int) = 1 + size % 30) :
    Calls Tryd.prog 21 #[.int .u8 size, v] w fun e w' =>
      ∃ R G, e = .returned (.tuple #[.pointer (some ⟨R, 0, none⟩), .int .i64 (n : Int), .bool true]) ∧ Ring w' R G n l ∧ w.heap.size ≤ R ∧ w.heap.size ≤ G ∧ ∃ x : Ext w, w' = x.w := by
  have hm : size.tmod 30 = size % 30 := Int.tmod_eq_emod_of_nonneg s0
  have hs : 0 ≤ size % 30 ∧ size % 30 < 30 := by omega
  have hn' : 1 + size % 30 = (n : Int) := hn.symm
  generalize size % 30 = q at *
  clear hn
  obtain ⟨hs0, hs1⟩ := hs
  obtain ⟨p, cap, rfl, hc⟩ := hv
  have Hc := Lib.hid hc
  have Hok := Lib.hid hok
  clear hc hok
  obtain ⟨N, hN⟩ : ∃ N, l.length = N := ⟨_, rfl⟩
  rw [hN] at hl
  rw [hN]
  have HN := Lib.hid hN
  rw [hN] at Hc
  clear hN
  go_enter Tryd.func21, Tryd.ntmps21
  go_wp2_with (first
    | (go_at_call 27; refine (ring_new n _ (by omega) (by omega)).mono ?_; rintro e w' ⟨R, G, rfl, hring, hR, hG, xn, rfl⟩))
  have Hr := Lib.hid hring
  haveI : LtSize R xn.w := ⟨hring.ltR⟩
  haveI : LtSize G xn.w := ⟨hring.ltG⟩
  haveI : GeSize w R := ⟨hR⟩
  haveI : GeSize w G := ⟨hG⟩
  clear hring
  go_loopw [31] (fun i wr => ∃ k : Nat, k ≤ N ∧ i = .int .i64 (k : Int) ∧ Hid (Ring wr R G n (l.take k)) ∧ ∃ x : PExt R G xn.w, wr = x.w) (fun i _ => N - (intOf i).toNat)
  case atStart => exact ⟨0, Nat.zero_le _, rfl, Hr, pmkI⟩
  case round =>
    obtain ⟨k, hk, rfl, Hk, x, rfl⟩ := hrel
    by_cases hlt : k < N
    · have hlt' : (k : Int) < (N : Int) := by omega
      obtain ⟨e, he⟩ : ∃ e, l[k]? = some e := ⟨_, List.getElem?_eq_getElem (by rw [HN.out]; exact hlt)⟩
      obtain ⟨b, o, rfl, hbw, hcc⟩ := Hc.out k hlt
      simp only [he, Option.bind_some] at hcc
      have c0 := hcc 0 _ rfl; have c1 := hcc 1 _ rfl; have c2 := hcc 2 _ rfl; have c3 := hcc 3 _ rfl; have c4 := hcc 4 _ rfl; have c5 := hcc 5 _ rfl; have c6 := hcc 6 _ rfl; have c7 := hcc 7 _ rfl
      rw [Nat.add_zero] at c0
      haveI : LtSize b w := ⟨hbw⟩
      haveI : NeB b R := ⟨by omega⟩
      haveI : NeB b G := ⟨by omega⟩
      have eb := Hok.out.b e (List.mem_of_getElem? he)
      have er := Hok.out.r e (List.mem_of_getElem? he)
      have et := Hok.out.t k e he
      have T1 := Lib.hid (take_snoc l k e he)
      have hlk : (l.take k).length = k := by rw [List.length_take, HN.out]; omega
      have hput : ∀ w', UpI x.w w' → Calls Tryd.prog 23 #[.pointer (some ⟨R, 0, none⟩), .agg #[.int .i64 e.n, .int .u8 e.sd, .int .u8 e.r, .int .u8 e.pr, .int .u32 e.s, .int .u32 e.d, .int .u16 e.sp, .int .u16 e.dp]] w' fun en w'' =>
          en = .returned (.tuple #[.int .i64 (k : Int), .int .i64 0]) ∧ Ring w'' R G n (l.take k ++ [e]) ∧ ∃ y : PExt R G w', w'' = y.w := fun w' hu => by
        have := put_px w' R G n (l.take k) (Hk.out.up hu.up) e.n e.sd e.r e.pr e.s e.d e.sp e.dp eb er et (by omega)
        rwa [hlk] at this
      clear hcc he eb er et hlk Hr
      go_wp2_with (first
        | (go_at_call 23; refine (hput _ inferInstance).mono ?_; rintro e w' ⟨rfl, hr', z, rfl⟩))
      have Hr' := Lib.hid hr'
      clear hr'
      go_roundw
      case rel => exact ⟨k + 1, by omega, by go_num, by rw [T1.out]; exact Hr', pmkI⟩
      case measure => simp [intOf]; omega
    · obtain rfl : k = N := by omega
      have e : l.take k = l := List.take_of_length_le (by rw [HN.out]; omega)
      rw [e] at Hk
      go_wp2_with fail
      go_ret3
      exact ⟨R, G, rfl, Hk.out, hR, hG, mkI⟩
end Go.Proofs.YtdebpdjkkblcfaaDoor
