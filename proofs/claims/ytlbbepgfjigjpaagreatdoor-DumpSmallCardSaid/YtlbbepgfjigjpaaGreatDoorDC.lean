/- Package dump: right lines, words. Package dump: words with spaces between them; the text of a line. Package dump: the text of a line. -/
import Derived.Test.YtlbbepgfjigjpaaGreatDoorDDump
import Derived.Test.YtlbbepgfjigjpaaGreatDoorTr1
import Derived.Shelf.SlicesE.DeleteFunc
import Derived.Deep.RegionHeld3
namespace Go.Ab
open Go.RowKit Go.Proofs.YtlbbepgfjigjpaaGreatDoor
structure GoodD (w : World) : Prop where
  goodN : GoodN w
  cls : ∀ (i : Nat) s, clsL[i]? = some s → w.cell? ⟨3, i, none⟩ = some (.string ⟨s.toArray⟩)
  side0 : w.cell? ⟨0, 0, none⟩ = some (.string ⟨insideW.toArray⟩)
  side1 : w.cell? ⟨0, 1, none⟩ = some (.string ⟨outsideW.toArray⟩)
theorem GoodD.up {w W : World} (g : GoodD w) (h : Up w W) : GoodD W := ⟨g.goodN.up h, fun i s hs => h.cell_some (g.cls i s hs), h.cell_some g.side0, h.cell_some g.side1⟩
theorem GoodD.good {w : World} (g : GoodD w) : Go.Proofs.YtlbbepgfjigjpaaGreatDoor.Good w := g.goodN.good
theorem up_putRow {α : Type} [Inhabited α] {enc : α → Value} {w0 w : World} {g off q : Nat} {d : Array α} (h : Up w0 w) (hg : w0.heap.size ≤ g) : Up w0 (Sort.putRow enc (Sort.ahead w q) g off d) :=
  ⟨h.os, h.tape, h.output, by rw [Sort.size_putRow]; exact h.size, fun k hk => by
    have hb := h.block k hk
    unfold Sort.putRow Sort.mapBlock Sort.ahead
    simp only [Array.getElem?_modify]
    rw [if_neg (by omega)]
    exact hb⟩
end Go.Ab
namespace Go.Proofs.YtlbbepgfjigjpaaGreatDoor
open Go.RowKit Go.Ab
set_option maxHeartbeats 16000000 in
set_option maxRecDepth 100000 in
theorem dright_any (l : Ln) (w : World) (b : LnB l) : Gives Tryz.prog 18 #[l.val] w (.bool l.right) := by
  have r0 := b.sd0; have r1 := b.cl0
  obtain ⟨pr, s, d, sp, dp, sd, cl, rp, ss, dl, sn⟩ := l
  simp only at r0 r1
  clear b
  unfold Gives Ln.val
  by_cases h1 : sd ≤ 1
  · by_cases h2 : cl < 9
    · by_cases h3 : (rp || !ss) = true
      · by_cases h4 : 0 ≤ dl
        · by_cases h5 : 0 ≤ sn
          · have E : Hid (Ln.right ⟨pr, s, d, sp, dp, sd, cl, rp, ss, dl, sn⟩ = true) := Lib.hid (by simp only [Ln.right, h1, h2, h3, h4, h5]; rfl)
            cases rp <;> cases ss
            all_goals first | (exfalso; exact absurd h3 (by decide)) | skip
            all_goals
              clear h3
              go_enter Tryz.func18, Tryz.ntmps18
              go_wp2_with fail
              all_goals first | (exfalso; omega) | skip
              go_ret
              exact ⟨ret_bool E.out.symm, mkI⟩
          · have E : Hid (Ln.right ⟨pr, s, d, sp, dp, sd, cl, rp, ss, dl, sn⟩ = false) := Lib.hid (by simp [Ln.right, h5])
            cases rp <;> cases ss
            all_goals first | (exfalso; exact absurd h3 (by decide)) | skip
            all_goals
              clear h3
              go_enter Tryz.func18, Tryz.ntmps18
              go_wp2_with fail
              all_goals first | (exfalso; omega) | skip
              go_ret
              exact ⟨ret_bool E.out.symm, mkI⟩
        · have E : Hid (Ln.right ⟨pr, s, d, sp, dp, sd, cl, rp, ss, dl, sn⟩ = false) := Lib.hid (by simp [Ln.right, h4])
          cases rp <;> cases ss
          all_goals first | (exfalso; exact absurd h3 (by decide)) | skip
          all_goals
            clear h3
            go_enter Tryz.func18, Tryz.ntmps18
            go_wp2_with fail
            all_goals first | (exfalso; omega) | skip
            go_ret
            exact ⟨ret_bool E.out.symm, mkI⟩
      · have E : Hid (Ln.right ⟨pr, s, d, sp, dp, sd, cl, rp, ss, dl, sn⟩ = false) := Lib.hid (by simp [Ln.right, h3])
        cases rp <;> cases ss
        all_goals first | (exfalso; exact absurd rfl h3) | skip
        clear h3
        go_enter Tryz.func18, Tryz.ntmps18
        go_wp2_with fail
        all_goals first | (exfalso; omega) | skip
        go_ret
        exact ⟨ret_bool E.out.symm, mkI⟩
    · have E : Hid (Ln.right ⟨pr, s, d, sp, dp, sd, cl, rp, ss, dl, sn⟩ = false) := Lib.hid (by simp [Ln.right, h2])
      go_enter Tryz.func18, Tryz.ntmps18
      go_wp2_with fail
      all_goals first | (exfalso; omega) | skip
      go_ret
      exact ⟨ret_bool E.out.symm, mkI⟩
  · have E : Hid (Ln.right ⟨pr, s, d, sp, dp, sd, cl, rp, ss, dl, sn⟩ = false) := Lib.hid (by simp [Ln.right, h1])
    go_enter Tryz.func18, Tryz.ntmps18
    go_wp2_with fail
    all_goals first | (exfalso; omega) | skip
    go_ret
    exact ⟨ret_bool E.out.symm, mkI⟩
theorem cls_big (c : Int) (h : 9 ≤ c) : clsOf c = [] := by
  unfold clsOf
  rw [List.getElem?_eq_none (by show 9 ≤ c.toNat; omega)]; rfl
set_option maxHeartbeats 8000000 in
set_option maxRecDepth 100000 in
theorem className_any (c : Int) (w : World) (g : GoodD w) (c0 : 0 ≤ c) (c1 : c < 256) : Gives Tryz.prog 44 #[.int .u8 c] w (.string ⟨(clsOf c).toArray⟩) := by
  by_cases h : c < 9
  · obtain ⟨k, rfl⟩ := Int.eq_ofNat_of_zero_le c0
    have hk : k < 9 := by omega
    obtain ⟨s, hs⟩ : ∃ s, clsL[k]? = some s := ⟨_, List.getElem?_eq_getElem (by show k < 9; exact hk)⟩
    have hw := g.cls k s hs
    have E : Hid (clsOf (k : Int) = s) := Lib.hid (by unfold clsOf; simp [hs])
    haveI : LtSize 3 w := ⟨cell_lt hw⟩
    have k0 : (0 : Int) ≤ (k : Int) := by omega
    rw [E.out]
    unfold Gives
    clear E hs g
    go_enter Tryz.func44, Tryz.ntmps44
    go_wp2_with fail
    all_goals first | (exfalso; omega) | skip
    go_ret
    exact ⟨rfl, mkI⟩
  · rw [cls_big c (by omega)]
    unfold Gives
    go_enter Tryz.func44, Tryz.ntmps44
    go_wp2_with fail
    all_goals first | (exfalso; omega) | skip
    go_ret
    exact ⟨rfl, mkI⟩
set_option maxHeartbeats 4000000 in
theorem only_any (b : Bool) (word : List UInt8) (w : World) : Gives Tryz.prog 45 #[.bool b, .string ⟨word.toArray⟩] w (.string ⟨(onlyW b word).toArray⟩) := by
  unfold Gives onlyW
  cases b
  all_goals
    go_enter Tryz.func45, Tryz.ntmps45
    go_wp2_with fail
    go_ret
    exact ⟨rfl, mkI⟩
end Go.Proofs.YtlbbepgfjigjpaaGreatDoor
namespace Go.Ab
open Go.RowKit Go.Proofs.YtlbbepgfjigjpaaGreatDoor
def emptyB (s : ByteArray) : Bool := s.data.toList == []
def bytesL (xs : List (List UInt8)) : List ByteArray := xs.map fun x => ⟨x.toArray⟩
theorem bytesL_filter (xs : List (List UInt8)) : (bytesL xs).filter (fun s => !emptyB s) = bytesL (xs.filter fun x => !x.isEmpty) := by
  unfold bytesL
  rw [List.filter_map]
  congr 1
  refine List.filter_congr fun x _ => ?_
  cases x <;> simp [emptyB]
theorem bytesL_lists (xs : List (List UInt8)) : (bytesL xs).map (·.data.toList) = xs := by
  unfold bytesL
  rw [List.map_map]
  exact List.map_id' xs
end Go.Ab
namespace Go.Proofs.YtlbbepgfjigjpaaGreatDoor
open Go.RowKit Go.Ab Go.Shelf Go.Sort
set_option maxHeartbeats 2000000 in
theorem words1_any (s : ByteArray) (W : World) : FnGives Tryz.prog 69 #[] #[.string s] (.bool (emptyB s)) W := by
  have hs : s.toList = s.data.toList := ByteArray.toList_eq s
  show Calls Tryz.prog 69 #[.string s] W _
  unfold emptyB
  go_enter Tryz.func69, Tryz.ntmps69
  go_wp2
  all_goals (go_ret; exact ⟨by simp_all, 0, rfl⟩)
set_option maxHeartbeats 4000000 in
set_option maxRecDepth 100000 in
theorem dwords_any (w0 w : World) (hu : Up w0 w) (b o c : Nat) (xs : List (List UInt8)) (hb : w0.heap.size ≤ b) (hbw : b < w.heap.size) (hc : xs.length ≤ c) (hsz : xs.length ≤ 1000)
    (hH : ∀ j x, xs[j]? = some x → w.cell? ⟨b, o + j, none⟩ = some (.string ⟨x.toArray⟩) ∧ w.frozen? ⟨b, o + j, none⟩ = false) (hlen : (joinW xs).length ≤ 140737488355328) :
    Calls Tryz.prog 36 #[.slice (some ⟨b, o, none⟩) xs.length c] w fun e w' => e = .returned (.string ⟨(joinW xs).toArray⟩) ∧ (∃ x : Ext w0, w' = x.w) ∧ ∀ j, o + xs.length ≤ j → w'.cell? ⟨b, j, none⟩ = w.cell? ⟨b, j, none⟩ := by
  have eg : ∀ args w, (callFunc 69 args).run Tryz.prog w = .ok (.enter 69 args) w := enters Tryz.func69 (by kernel_rfl) rfl
  have hd : (bytesL xs).toArray.size = xs.length := by simp [bytesL]
  have hget : ∀ j, j < xs.length → ∃ y, xs[j]? = some y ∧ (bytesL xs).toArray[j]! = ⟨y.toArray⟩ := fun j hj => by
    refine ⟨xs[j], List.getElem?_eq_getElem hj, ?_⟩
    rw [getElem!_pos _ j (by rw [hd]; exact hj)]
    simp [bytesL]
  have hHo : Holds Value.string w b o (bytesL xs).toArray := fun j hj => by
    rw [hd] at hj
    obtain ⟨y, hy, e⟩ := hget j hj
    rw [e]; exact hH j y hy
  have hcon := Tryz.slices_DeleteFunc Value.string (fun _ => rfl) emptyB 69 #[] eg ⟨#[]⟩ Tryz.zeroValue9 b o c (bytesL xs).toArray w (fun W x _ => words1_any x W) (fun _ _ _ x _ => words1_any x _) hHo (by rw [hd]; omega) (by rw [hd]; exact hc)
  rw [hd, List.toList_toArray, bytesL_filter] at hcon
  obtain ⟨ys, hys⟩ : ∃ ys, ys = xs.filter (fun x => !x.isEmpty) := ⟨_, rfl⟩
  rw [← hys] at hcon
  have hyl : ys.length ≤ xs.length := by rw [hys]; exact List.length_filter_le _ _
  have hbl : (bytesL ys).length = ys.length := by simp [bytesL]
  rw [hbl] at hcon
  unfold joinW at hlen ⊢
  rw [← hys] at hlen ⊢
  have hjoin : ∀ w' : World, (∃ q, w' = putRow Value.string (Sort.ahead w q) b o (bytesL ys ++ List.replicate (xs.length - ys.length) (⟨#[]⟩ : ByteArray)).toArray) → Gives Tryz.prog 67 #[.slice (some ⟨b, o, none⟩) ys.length c, .string ⟨#[32]⟩] w' (.string ⟨(Lib.join ys [32]).toArray⟩) := by
    rintro w' ⟨q, rfl⟩
    have hq : Holds Value.string (putRow Value.string (Sort.ahead w q) b o (bytesL ys ++ List.replicate (xs.length - ys.length) (⟨#[]⟩ : ByteArray)).toArray) b o (bytesL ys ++ List.replicate (xs.length - ys.length) (⟨#[]⟩ : ByteArray)).toArray :=
      holds_putRow _ _ b o (bytesL xs).toArray _ (holds_ahead _ w q b o _ hHo) (by simp [hbl, hd]; omega)
    have := Tryz.strings_Join b o c (bytesL ys) ⟨#[32]⟩ (putRow Value.string (Sort.ahead w q) b o (bytesL ys ++ List.replicate (xs.length - ys.length) (⟨#[]⟩ : ByteArray)).toArray) (fun j x hx => by
      have hj : j < ys.length := by rw [← hbl]; exact (List.getElem?_eq_some_iff.1 hx).1
      have h1 := (hq j (by simp [hbl]; omega)).1
      rw [h1, getElem!_pos _ j (by simp [hbl]; omega)]
      obtain ⟨_, he⟩ := List.getElem?_eq_some_iff.1 hx
      simp only [List.getElem_toArray]
      rw [List.getElem_append_left (by rw [hbl]; exact hj), he]) (by rw [size_putRow]; exact hbw) (by rw [hbl]; omega) (by rw [hbl]; omega) (by rw [bytesL_lists]; exact hlen)
    rw [bytesL_lists, hbl] at this
    exact Gives.of_below this
  have HC := Lib.hid hcon
  have HJ := Lib.hid hjoin
  clear hcon hjoin hHo hget hH hys hd hlen
  go_enter Tryz.func36, Tryz.ntmps36
  go_wp2_with (first
    | (go_at_call 68; refine HC.out.mono ?_; rintro e w' ⟨rfl, hq⟩)
    | (go_at_call 67; refine (HJ.out _ hq).mono ?_; rintro e w'' ⟨rfl, x, rfl⟩))
  go_ret
  obtain ⟨q, hq⟩ := hq
  have hup : Up w0 w' := by rw [hq]; exact up_putRow hu hb
  refine ⟨rfl, (hup.ext x).mk, fun j hj => ?_⟩
  have hbs : b < w'.heap.size := by rw [hq, size_putRow]; exact hbw
  rw [x.cell hbs, hq, cell?_putRow_other _ _ _ _ _ _ (.inr (.inr (by simp [hbl]; omega)))]
  rfl
end Go.Proofs.YtlbbepgfjigjpaaGreatDoor
namespace Go.Ab
open Go.RowKit Go.Proofs.YtlbbepgfjigjpaaGreatDoor
theorem tail_length : ∀ ys : List (List UInt8), (Lib.joinTail [32] ys).length = (ys.map fun x => x.length + 1).sum
  | [] => rfl
  | x :: r => by rw [joinTail_cons, List.map_cons, List.sum_cons, List.length_append, List.length_append, tail_length r]; simp; omega
theorem join_length (ys : List (List UInt8)) : (Lib.join ys [32]).length ≤ (ys.map fun x => x.length + 1).sum := by
  cases ys with
  | nil => simp [Lib.join]
  | cons x r =>
    have := tail_length r
    rw [Lib.join_cons, List.length_append, List.map_cons, List.sum_cons]
    omega
theorem filter_sum (p : List UInt8 → Bool) : ∀ xs : List (List UInt8), ((xs.filter p).map fun x => x.length + 1).sum ≤ (xs.map fun x => x.length + 1).sum
  | [] => Nat.le_refl _
  | x :: r => by
    have := filter_sum p r
    rw [List.filter_cons]
    split <;> simp only [List.map_cons, List.sum_cons] <;> omega
theorem joinW_length (xs : List (List UInt8)) : (joinW xs).length ≤ (xs.map fun x => x.length + 1).sum := Nat.le_trans (join_length _) (filter_sum _ _)
theorem side_length (sd : Int) : (sideW sd).length ≤ 7 := by unfold sideW; split <;> decide
theorem cls_length (c : Int) : (clsOf c).length ≤ 11 := by
  unfold clsOf
  cases h : clsL[c.toNat]? with
  | none => simp
  | some s =>
    have : ∀ s ∈ clsL, s.length ≤ 11 := by decide
    exact this s (List.mem_of_getElem? h)
theorem only_length (b : Bool) (w : List UInt8) : (onlyW b w).length ≤ w.length := by unfold onlyW; split <;> simp
theorem keyT_len (pr s d sp dp : Int) (r0 : 0 ≤ pr) (r1 : pr < 256) (sp0 : 0 ≤ sp) (sp1 : sp < 65536) (dp0 : 0 ≤ dp) (dp1 : dp < 65536) : (keyTextL pr s d sp dp).length ≤ 300 := by
  have := textL_length s; have := textL_length d
  have := dec_length pr (by omega) (by omega)
  have := dec_length sp (by omega) (by omega)
  have := dec_length dp (by omega) (by omega)
  unfold keyTextL; simp only [List.length_append, List.length_cons, List.length_nil]; omega
theorem words_bound (l : Ln) (b : LnB l) : (l.words.map fun x => x.length + 1).sum ≤ 500 := by
  have l1 := keyT_len l.pr l.s l.d l.sp l.dp b.key.r0 b.key.r1 b.key.sp0 b.key.sp1 b.key.dp0 b.key.dp1
  have l2 := side_length l.sd
  have l3 := cls_length l.cl
  have l4 := only_length l.rp repliedW
  have l5 := only_length l.ss assuredW
  have l6 := dec_length l.dl b.dl0 b.dl1
  have l7 := dec_length l.sn b.sn0 b.sn1
  have e1 : repliedW.length = 7 := rfl
  have e2 : assuredW.length = 7 := rfl
  have e3 : deadW.length = 8 := rfl
  have e4 : seenW.length = 4 := rfl
  simp only [Ln.words, List.map_cons, List.map_nil, List.sum_cons, List.sum_nil]
  omega
def textE (l : Ln) : Value := if l.right then .tuple #[.string ⟨l.text.toArray⟩, .int .i64 0] else .tuple #[.string ⟨#[]⟩, .int .i64 381]
end Go.Ab
namespace Go.Proofs.YtlbbepgfjigjpaaGreatDoor
open Go.RowKit Go.Ab
theorem words9 (w1 W : World) (n : Nat) (a1 a2 a3 a4 a5 a6 a7 a8 a9 : List UInt8) (hn : SizeIs W n) (hu : UpI w1 W) (hl : ([a1, a2, a3, a4, a5, a6, a7, a8, a9].map fun x => x.length + 1).sum ≤ 500) :
    Calls Tryz.prog 36 #[.slice (some ⟨n, 0, none⟩) 9 9] (W.alloc (.cells #[.string ⟨a1.toArray⟩, .string ⟨a2.toArray⟩, .string ⟨a3.toArray⟩, .string ⟨a4.toArray⟩, .string ⟨a5.toArray⟩, .string ⟨a6.toArray⟩, .string ⟨a7.toArray⟩, .string ⟨a8.toArray⟩, .string ⟨a9.toArray⟩] 9)) fun e w' =>
      e = .returned (.string ⟨(joinW [a1, a2, a3, a4, a5, a6, a7, a8, a9]).toArray⟩) ∧ ∃ x : Ext w1, w' = x.w := by
  have hsz := hn.eq
  have hle := hu.up.size
  refine (dwords_any w1 _ (hu.up.alloc _) n 0 9 [a1, a2, a3, a4, a5, a6, a7, a8, a9] (by omega) (by rw [World.size_alloc]; omega) (Nat.le_refl 9) (by simp) (fun j x hj => ?_) (by have := joinW_length [a1, a2, a3, a4, a5, a6, a7, a8, a9]; omega)).mono fun e w' ⟨h1, h2, _⟩ => ⟨h1, h2⟩
  have hj9 : j < 9 := (List.getElem?_eq_some_iff.1 hj).1
  rw [Nat.zero_add, alloc_at_cellI, alloc_at_frozenI]
  rcases (by omega : j = 0 ∨ j = 1 ∨ j = 2 ∨ j = 3 ∨ j = 4 ∨ j = 5 ∨ j = 6 ∨ j = 7 ∨ j = 8) with rfl | rfl | rfl | rfl | rfl | rfl | rfl | rfl | rfl
  all_goals (simp at hj; subst hj; exact ⟨rfl, rfl⟩)
set_option maxHeartbeats 4000000 in
set_option maxRecDepth 100000 in
theorem dtext_no (l : Ln) (w : World) (b : LnB l) (h : l.right = false) : Gives Tryz.prog 15 #[l.val] w (.tuple #[.string ⟨#[]⟩, .int .i64 381]) := by
  have hr := fun w => (dright_any l w b).cast (by rw [h])
  unfold Ln.val at hr
  clear h b
  unfold Gives Ln.val
  go_enter Tryz.func15, Tryz.ntmps15
  go_wp2_with (go_at_call 18; refine (hr _).mono ?_; rintro e w' ⟨rfl, x, rfl⟩)
  go_ret2
  exact ⟨rfl, mkI⟩
set_option maxHeartbeats 8000000 in
set_option maxRecDepth 100000 in
theorem dtext_yes (l : Ln) (w : World) (g : GoodD w) (b : LnB l) (h : l.right = true) : Gives Tryz.prog 15 #[l.val] w (.tuple #[.string ⟨l.text.toArray⟩, .int .i64 0]) := by
  have hr := fun w => (dright_any l w b).cast (by rw [h])
  have hs1 := (lnRight_parts h).1
  have hL := Lib.hid (words_bound l b)
  unfold Ln.val at hr
  have hk : ∀ w, Good w → Gives Tryz.prog 43 #[.agg #[.int .u8 l.pr, .int .u32 l.s, .int .u32 l.d, .int .u16 l.sp, .int .u16 l.dp]] w (.string ⟨(keyTextL l.pr l.s l.d l.sp l.dp).toArray⟩) := fun w g => keyText_any l.pr l.s l.d l.sp l.dp w g b.key.r0 b.key.r1 b.key.sp0 b.key.sp1 b.key.dp0 b.key.dp1
  have hc := fun w g => className_any l.cl w g b.cl0 b.cl1
  have h1 := fun w => only_any l.rp repliedW w
  have h2 := fun w => only_any l.ss assuredW w
  have h3 : ∀ w, Go.Proofs.YtlbbepgfjigjpaaGreatDoor.Good w → Gives Tryz.prog 37 #[.int .i64 l.dl] w (.string ⟨(dec l.dl).toArray⟩) := fun w g => itoa_any l.dl w g b.dl0 b.dl1
  have h4 : ∀ w, Go.Proofs.YtlbbepgfjigjpaaGreatDoor.Good w → Gives Tryz.prog 37 #[.int .i64 l.sn] w (.string ⟨(dec l.sn).toArray⟩) := fun w g => itoa_any l.sn w g b.sn0 b.sn1
  have s0 := b.sd0
  clear h b
  unfold Ln.text
  unfold Ln.words at hL ⊢
  obtain ⟨pr, s, d, sp, dp, sd, cl, rp, ss, dl, sn⟩ := l
  simp only at *
  obtain ⟨k, rfl⟩ := Int.eq_ofNat_of_zero_le s0
  have k2 : k < 2 := by omega
  have hw : w.cell? ⟨0, k, none⟩ = some (.string ⟨(sideW (k : Int)).toArray⟩) := by
    rcases (by omega : k = 0 ∨ k = 1) with rfl | rfl
    · exact g.side0
    · exact g.side1
  have k3 : (k : Int) < 2 := by omega
  generalize keyTextL pr s d sp dp = t1 at *
  generalize sideW (k : Int) = t2 at *
  generalize clsOf cl = t3 at *
  generalize onlyW rp repliedW = t4 at *
  generalize onlyW ss assuredW = t5 at *
  generalize dec dl = t6 at *
  generalize dec sn = t7 at *
  unfold repliedW at h1
  unfold assuredW at h2
  unfold deadW seenW at hL ⊢
  haveI : LtSize 0 w := ⟨cell_lt hw⟩
  unfold Gives Ln.val
  simp only
  go_enter Tryz.func15, Tryz.ntmps15
  go_wp2_with (go_at_call 18; refine (hr _).mono ?_; rintro e w' ⟨rfl, x, rfl⟩)
  have f0 : x.w.cell? ⟨w.heap.size, 0, none⟩ = some (.int .u8 pr) := by simp [go_sem]
  have f1 : x.w.cell? ⟨w.heap.size, 1, none⟩ = some (.int .u32 s) := by simp [go_sem]
  have f2 : x.w.cell? ⟨w.heap.size, 2, none⟩ = some (.int .u32 d) := by simp [go_sem]
  have f3 : x.w.cell? ⟨w.heap.size, 3, none⟩ = some (.int .u16 sp) := by simp [go_sem]
  have f4 : x.w.cell? ⟨w.heap.size, 4, none⟩ = some (.int .u16 dp) := by simp [go_sem]
  have f5 : x.w.cell? ⟨w.heap.size, 5, none⟩ = some (.int .u8 (k : Int)) := by simp [go_sem]
  have f6 : x.w.cell? ⟨w.heap.size, 6, none⟩ = some (.int .u8 cl) := by simp [go_sem]
  have f7 : x.w.cell? ⟨w.heap.size, 7, none⟩ = some (.bool rp) := by simp [go_sem]
  have f8 : x.w.cell? ⟨w.heap.size, 8, none⟩ = some (.bool ss) := by simp [go_sem]
  have f9 : x.w.cell? ⟨w.heap.size, 9, none⟩ = some (.int .i64 dl) := by simp [go_sem]
  have f10 : x.w.cell? ⟨w.heap.size, 10, none⟩ = some (.int .i64 sn) := by simp [go_sem]
  have fs : x.w.cell? ⟨0, k, none⟩ = some (.string ⟨t2.toArray⟩) := by simp [go_sem, hw]
  have gx := g.up (upI : Up w x.w)
  have ux : UpI w x.w := inferInstance
  clear hw g hr
  generalize x.w = w1 at *
  generalize w.heap.size = p at *
  go_region_held3 (fun w' => UpI w1 w' ∧ w'.cell? ⟨p, 0, none⟩ = some (.int .u8 pr) ∧ w'.cell? ⟨p, 1, none⟩ = some (.int .u32 s) ∧ w'.cell? ⟨p, 2, none⟩ = some (.int .u32 d) ∧ w'.cell? ⟨p, 3, none⟩ = some (.int .u16 sp) ∧ w'.cell? ⟨p, 4, none⟩ = some (.int .u16 dp) ∧ w'.cell? ⟨p, 5, none⟩ = some (.int .u8 (k : Int)) ∧ w'.cell? ⟨p, 6, none⟩ = some (.int .u8 cl) ∧ w'.cell? ⟨p, 7, none⟩ = some (.bool rp) ∧ w'.cell? ⟨p, 8, none⟩ = some (.bool ss) ∧ w'.cell? ⟨p, 9, none⟩ = some (.int .i64 dl) ∧ w'.cell? ⟨p, 10, none⟩ = some (.int .i64 sn) ∧ w'.cell? ⟨0, k, none⟩ = some (.string ⟨t2.toArray⟩))
    (exact ⟨inferInstance, (upI : Up w1 _).cell_some f0, (upI : Up w1 _).cell_some f1, (upI : Up w1 _).cell_some f2, (upI : Up w1 _).cell_some f3, (upI : Up w1 _).cell_some f4, (upI : Up w1 _).cell_some f5, (upI : Up w1 _).cell_some f6, (upI : Up w1 _).cell_some f7, (upI : Up w1 _).cell_some f8, (upI : Up w1 _).cell_some f9, (upI : Up w1 _).cell_some f10, (upI : Up w1 _).cell_some fs⟩)
    (first
      | (go_at_call 43; refine (hk _ (gx.good.up upI)).mono ?_; rintro e w' ⟨rfl, x, rfl⟩)
      | (go_at_call 44; refine (hc _ (gx.up upI)).mono ?_; rintro e w' ⟨rfl, x, rfl⟩)
      | (go_at_call 45; (with_reducible refine (h1 _).mono ?_); rintro e w' ⟨rfl, x, rfl⟩)
      | (go_at_call 45; (with_reducible refine (h2 _).mono ?_); rintro e w' ⟨rfl, x, rfl⟩)
      | (go_at_call 37; (with_reducible refine (h3 _ (gx.good.up upI)).mono ?_); rintro e w' ⟨rfl, x, rfl⟩)
      | (go_at_call 37; (with_reducible refine (h4 _ (gx.good.up upI)).mono ?_); rintro e w' ⟨rfl, x, rfl⟩)
      | (go_at_call 36; refine (words9 w1 _ _ t1 t2 t3 t4 t5 [100, 101, 97, 100, 108, 105, 110, 101] t6 [115, 101, 101, 110] t7 (by infer_instance) (by infer_instance) hL.out).mono ?_; rintro e w' ⟨rfl, x, rfl⟩))
  all_goals (go_wp2_with fail; go_ret2; exact ⟨rfl, ((ux.up.trans x.up)).mk⟩)
theorem dtext_any (l : Ln) (w : World) (g : GoodD w) (b : LnB l) : Gives Tryz.prog 15 #[l.val] w (textE l) := by
  unfold textE
  cases h : l.right
  · exact dtext_no l w b h
  · exact dtext_yes l w g b h
end Go.Proofs.YtlbbepgfjigjpaaGreatDoor
