/- What is written is read back: the plain law behind AddrBack. The bounds of a key's parts. What ReadKey returns, as one tuple of parts. What is read is the text of what it gives; a string is read as one kind of text alone: plain lists, no program in sight. Lines of a dump: their texts, and what is guessed from a string (plain laws). -/
import Derived.Test.YtlbbepgfjigjpaaGreatDoorAddr4
import Derived.Test.YtlbbepgfjigjpaaGreatDoorBase
namespace Go.Ab
open Go.Proofs.YtlbbepgfjigjpaaGreatDoor
theorem dec_digit (n : Int) (h : 0 ≤ n) (c : UInt8) (hc : c.toNat < 48 ∨ 57 < c.toNat) : c ∉ dec n := fun hm => by
  have := itoa_digit n h c hm
  omega
theorem atoiV_dec (n : Int) (h0 : 0 ≤ n) (h1 : n < 1000000000000000000) : atoiV (dec n) = n := by unfold atoiV dec; rw [atoiAll_dec n h0 h1]
theorem atoiOk_dec (n : Int) (h0 : 0 ≤ n) (h1 : n < 1000000000000000000) : atoiOk (dec n) = true := by unfold atoiOk dec; rw [atoiAll_dec n h0 h1]
theorem numV_dec (b n : Int) (h0 : 0 ≤ n) (h1 : n < b) (hb : b ≤ 1000000000000000000) : numV b (dec n) = n := by unfold numV; rw [atoiV_dec n h0 (by omega)]; exact Int.emod_eq_of_lt h0 h1
theorem numOk_dec (b n : Int) (h0 : 0 ≤ n) (h1 : n < b) (hb : b ≤ 1000000000000000000) : numOk b (dec n) = true := by unfold numOk; rw [atoiOk_dec n h0 (by omega), numV_dec b n h0 h1 hb]; simp
theorem oct_dot (a : Int) (k : Nat) : (46 : UInt8) ∉ dec (oct a k) := dec_digit _ (oct_bd a k).1 _ (by decide)
theorem split_text (a : Int) : splitC 46 (textL a) = [dec (oct a 0), dec (oct a 1), dec (oct a 2), dec (oct a 3)] := by
  unfold textL
  refine split_join 46 _ (by simp) ?_
  intro p hp
  simp only [List.mem_cons, List.not_mem_nil, or_false] at hp
  rcases hp with rfl | rfl | rfl | rfl <;> exact oct_dot a _
theorem text_chars (a : Int) (c : UInt8) (hc : c.toNat < 46 ∨ c.toNat = 47 ∨ 57 < c.toNat) : c ∉ textL a := by
  have h : ∀ k, c ∉ dec (oct a k) := fun k => dec_digit _ (oct_bd a k).1 c (by omega)
  have h46 : c ≠ 46 := fun e => by subst e; revert hc; decide
  unfold textL
  simp [Lib.join, h, h46]
theorem read_text (a : Int) (a0 : 0 ≤ a) (a1 : a < 4294967296) : readL (textL a) = some a := by
  unfold readL
  rw [split_text]
  have hk : ∀ k, numOk 256 (dec (oct a k)) = true := fun k => numOk_dec 256 _ (oct_bd a k).1 (oct_bd a k).2 (by omega)
  have hv : ∀ k, numV 256 (dec (oct a k)) = oct a k := fun k => numV_dec 256 _ (oct_bd a k).1 (oct_bd a k).2 (by omega)
  simp only [hk, Bool.and_self, if_true, accL, fourL, hv, Option.some.injEq]
  have e0 : oct a 0 = a / 16777216 % 256 := rfl
  have e1 : oct a 1 = a / 65536 % 256 := rfl
  have e2 : oct a 2 = a / 256 % 256 := rfl
  have e3 : oct a 3 = a / 1 % 256 := rfl
  rw [e0, e1, e2, e3]
  omega
end Go.Ab
namespace Go.Ab
open Go.Proofs.YtlbbepgfjigjpaaGreatDoor
theorem cut_text_port (s sp : Int) : cutC 58 (textL s ++ [58] ++ dec sp) = (textL s, dec sp, true) := by
  rw [List.append_assoc, List.singleton_append]
  exact cutC_app 58 _ _ (text_chars s 58 (by decide))
theorem key_parts (pr s d sp dp : Int) (r0 : 0 ≤ pr) (sp0 : 0 ≤ sp) :
    cutC 32 (keyTextL pr s d sp dp) = (dec pr, (textL s ++ [58] ++ dec sp) ++ 32 :: (textL d ++ [58] ++ dec dp), true) ∧
    cutC 32 ((textL s ++ [58] ++ dec sp) ++ 32 :: (textL d ++ [58] ++ dec dp)) = (textL s ++ [58] ++ dec sp, textL d ++ [58] ++ dec dp, true) := by
  constructor
  · have e : keyTextL pr s d sp dp = dec pr ++ 32 :: ((textL s ++ [58] ++ dec sp) ++ 32 :: (textL d ++ [58] ++ dec dp)) := by unfold keyTextL; simp
    rw [e]
    exact cutC_app 32 _ _ (dec_digit pr r0 32 (by decide))
  · refine cutC_app 32 _ _ ?_
    simp only [List.mem_append, List.mem_singleton, not_or]
    exact ⟨⟨text_chars s 32 (by decide), by decide⟩, dec_digit sp sp0 32 (by decide)⟩
theorem readKey_text (pr s d sp dp : Int) (r0 : 0 ≤ pr) (r1 : pr < 256) (s0 : 0 ≤ s) (s1 : s < 4294967296) (d0 : 0 ≤ d) (d1 : d < 4294967296) (sp0 : 0 ≤ sp) (sp1 : sp < 65536) (dp0 : 0 ≤ dp) (dp1 : dp < 65536) :
    kPr (keyTextL pr s d sp dp) = pr ∧ kS (keyTextL pr s d sp dp) = s ∧ kD (keyTextL pr s d sp dp) = d ∧ kSp (keyTextL pr s d sp dp) = sp ∧ kDp (keyTextL pr s d sp dp) = dp := by
  obtain ⟨h1, h2⟩ := key_parts pr s d sp dp r0 sp0
  have hr : kRest (keyTextL pr s d sp dp) = (textL s ++ [58] ++ dec sp) ++ 32 :: (textL d ++ [58] ++ dec dp) := by unfold kRest; rw [h1]
  have hs : kSrc (keyTextL pr s d sp dp) = textL s ++ [58] ++ dec sp := by unfold kSrc; rw [hr, h2]
  have hd : kDst (keyTextL pr s d sp dp) = textL d ++ [58] ++ dec dp := by unfold kDst; rw [hr, h2]
  refine ⟨?_, ?_, ?_, ?_, ?_⟩
  · unfold kPr; rw [h1]; exact numV_dec 256 pr r0 r1 (by omega)
  · unfold kS readI; rw [hs, cut_text_port s sp]; simp [read_text s s0 s1]
  · unfold kD readI; rw [hd, cut_text_port d dp]; simp [read_text d d0 d1]
  · unfold kSp; rw [hs, cut_text_port s sp]; exact numV_dec 65536 sp sp0 sp1 (by omega)
  · unfold kDp; rw [hd, cut_text_port d dp]; exact numV_dec 65536 dp dp0 dp1 (by omega)
theorem readKeyV_text (pr s d sp dp : Int) (r0 : 0 ≤ pr) (r1 : pr < 256) (s0 : 0 ≤ s) (s1 : s < 4294967296) (d0 : 0 ≤ d) (d1 : d < 4294967296) (sp0 : 0 ≤ sp) (sp1 : sp < 65536) (dp0 : 0 ≤ dp) (dp1 : dp < 65536) :
    readKeyV (keyTextL pr s d sp dp) = .tuple #[.agg #[.int .u8 pr, .int .u32 s, .int .u32 d, .int .u16 sp, .int .u16 dp], .int .i64 0] := by
  obtain ⟨h1, h2, h3, h4, h5⟩ := readKey_text pr s d sp dp r0 r1 s0 s1 d0 d1 sp0 sp1 dp0 dp1
  unfold readKeyV kText
  rw [h1, h2, h3, h4, h5, if_pos rfl]
end Go.Ab
namespace Go.Ab
/-- The bounds of a key's parts. -/
structure KeyB (pr s d sp dp : Int) : Prop where
  r0 : 0 ≤ pr
  r1 : pr < 256
  s0 : 0 ≤ s
  s1 : s < 4294967296
  d0 : 0 ≤ d
  d1 : d < 4294967296
  sp0 : 0 ≤ sp
  sp1 : sp < 65536
  dp0 : 0 ≤ dp
  dp1 : dp < 65536
end Go.Ab
namespace Go.Ab
open Go.Proofs.YtlbbepgfjigjpaaGreatDoor
def kv (b : Bool) (n : Int) : Int := if b then n else 0
def kvE (b : Bool) : Int := if b then 0 else 30
def kvB (l : List UInt8) : Bool := kText l == l
theorem kv_eq (l : List UInt8) : readKeyV l = .tuple #[.agg #[.int .u8 (kv (kvB l) (kPr l)), .int .u32 (kv (kvB l) (kS l)), .int .u32 (kv (kvB l) (kD l)), .int .u16 (kv (kvB l) (kSp l)), .int .u16 (kv (kvB l) (kDp l))], .int .i64 (kvE (kvB l))] := by
  unfold readKeyV kv kvE kvB
  by_cases h : kText l = l
  · have h' : (kText l == l) = true := by simpa using h
    rw [if_pos h, h']; rfl
  · have h' : (kText l == l) = false := by simpa using h
    rw [if_neg h, h']; rfl
theorem kv_bounds (l : List UInt8) : KeyB (kv (kvB l) (kPr l)) (kv (kvB l) (kS l)) (kv (kvB l) (kD l)) (kv (kvB l) (kSp l)) (kv (kvB l) (kDp l)) := by
  have h1 : 0 ≤ kPr l ∧ kPr l < 256 := by unfold kPr numV; omega
  have h2 := readI_bd (cutC 58 (kSrc l)).1
  have h3 := readI_bd (cutC 58 (kDst l)).1
  have h4 : 0 ≤ kSp l ∧ kSp l < 65536 := by unfold kSp numV; omega
  have h5 : 0 ≤ kDp l ∧ kDp l < 65536 := by unfold kDp numV; omega
  have h2' : 0 ≤ kS l ∧ kS l < 4294967296 := h2
  have h3' : 0 ≤ kD l ∧ kD l < 4294967296 := h3
  unfold kv
  cases kvB l
  · exact ⟨by simp, by simp, by simp, by simp, by simp, by simp, by simp, by simp, by simp, by simp⟩
  · exact ⟨h1.1, h1.2, h2'.1, h2'.2, h3'.1, h3'.2, h4.1, h4.2, h5.1, h5.2⟩
end Go.Ab
namespace Go.Ab
open Go.Proofs.YtlbbepgfjigjpaaGreatDoor
theorem key_bounds (l : List UInt8) : (0 ≤ kPr l ∧ kPr l < 256) ∧ (0 ≤ kS l ∧ kS l < 4294967296) ∧ (0 ≤ kD l ∧ kD l < 4294967296) ∧ (0 ≤ kSp l ∧ kSp l < 65536) ∧ (0 ≤ kDp l ∧ kDp l < 65536) := by
  refine ⟨by unfold kPr numV; omega, readI_bd _, readI_bd _, by unfold kSp numV; omega, by unfold kDp numV; omega⟩
end Go.Ab
namespace Go.Ab
open Go.Proofs.YtlbbepgfjigjpaaGreatDoor
theorem parse_decDigits64 (u : Nat) : u < 18446744073709551616 → Lib.parseUint10 0 (Lib.decDigits u) = .ok u := by
  induction u using Nat.strongRecOn with
  | _ u ih =>
    intro hu
    have one : ∀ (a d : Nat), a < 1844674407370955162 → d < 10 → a * 10 + d < 18446744073709551616 → Lib.parseUint10 a [UInt8.ofNat (48 + d)] = .ok (a * 10 + d) := by
      intro a d ha hd hs
      have e : (UInt8.ofNat (48 + d)).toNat = 48 + d := by simp; omega
      rw [Lib.parseUint10, e, if_pos (by omega), if_neg (by omega), if_neg (by omega), Lib.parseUint10]
      congr 1; omega
    by_cases h : u < 10
    · rw [Lib.decDigits_one h, one 0 u (by omega) h (by omega)]; simp
    · rw [Lib.decDigits, dif_neg h, parseUint10_snoc, ih (u / 10) (by omega) (by omega)]
      dsimp only
      rw [one (u / 10) (u % 10) (by omega) (by omega) (by omega)]
      congr 1; omega
theorem atoiAll_dec64 (n : Int) (h0 : 0 ≤ n) (h1 : n ≤ 9223372036854775807) : Lib.atoiAll (Lib.itoa n) = .ok n := by
  obtain ⟨u, rfl⟩ := Int.eq_ofNat_of_zero_le h0
  rw [Lib.itoa_nonneg]
  have hp := parse_decDigits64 u (by omega)
  cases hd : Lib.decDigits u with
  | nil => exact absurd hd (decDigits_ne u)
  | cons c r =>
    have hc := decDigits_digit u c (by rw [hd]; simp)
    rw [hd] at hp
    unfold Lib.atoiAll
    dsimp only
    rw [if_neg (by omega)]
    unfold Lib.parseMag
    rw [if_neg (by simp), hp]
    dsimp only
    rw [if_neg (by omega), if_neg (by omega), if_neg (by omega)]
theorem atoiV_dec64 (n : Int) (h0 : 0 ≤ n) (h1 : n ≤ 9223372036854775807) : atoiV (dec n) = n := by unfold atoiV dec; rw [atoiAll_dec64 n h0 h1]
theorem dec_neL (n : Int) : dec n ≠ [] := by
  unfold dec Lib.itoa
  split
  · simp
  · exact decDigits_ne _
structure Ln where
  pr : Int
  s : Int
  d : Int
  sp : Int
  dp : Int
  sd : Int
  cl : Int
  rp : Bool
  ss : Bool
  dl : Int
  sn : Int
  deriving DecidableEq
structure LnB (l : Ln) : Prop where
  key : KeyB l.pr l.s l.d l.sp l.dp
  sd0 : 0 ≤ l.sd
  sd1 : l.sd < 256
  cl0 : 0 ≤ l.cl
  cl1 : l.cl < 256
  dl0 : -9223372036854775808 ≤ l.dl
  dl1 : l.dl ≤ 9223372036854775807
  sn0 : -9223372036854775808 ≤ l.sn
  sn1 : l.sn ≤ 9223372036854775807
def Ln.zero : Ln := ⟨0, 0, 0, 0, 0, 0, 0, false, false, 0, 0⟩
def Ln.val (l : Ln) : Value := .agg #[.int .u8 l.pr, .int .u32 l.s, .int .u32 l.d, .int .u16 l.sp, .int .u16 l.dp, .int .u8 l.sd, .int .u8 l.cl, .bool l.rp, .bool l.ss, .int .i64 l.dl, .int .i64 l.sn]
def Ln.right (l : Ln) : Bool := decide (l.sd ≤ 1) && decide (l.cl < 9) && (l.rp || !l.ss) && decide (0 ≤ l.dl) && decide (0 ≤ l.sn)
def clsL : List (List UInt8) := [[116, 99, 112, 45, 111, 112, 101, 110, 105, 110, 103], [116, 99, 112, 45, 111, 112, 101, 110], [116, 99, 112, 45, 99, 108, 111, 115, 105, 110, 103], [116, 99, 112, 45, 119, 97, 105, 116], [116, 99, 112, 45, 114, 101, 115, 101, 116], [117, 100, 112, 45, 111, 110, 101], [117, 100, 112, 45, 98, 111, 116, 104], [113, 117, 101, 114, 121, 45, 111, 110, 101], [113, 117, 101, 114, 121, 45, 98, 111, 116, 104]]
def clsOf (c : Int) : List UInt8 := (clsL[c.toNat]?).getD []
def insideW : List UInt8 := [105, 110, 115, 105, 100, 101]
def outsideW : List UInt8 := [111, 117, 116, 115, 105, 100, 101]
def repliedW : List UInt8 := [114, 101, 112, 108, 105, 101, 100]
def assuredW : List UInt8 := [97, 115, 115, 117, 114, 101, 100]
def deadW : List UInt8 := [100, 101, 97, 100, 108, 105, 110, 101]
def seenW : List UInt8 := [115, 101, 101, 110]
def sideW (sd : Int) : List UInt8 := if sd = 0 then insideW else outsideW
def onlyW (b : Bool) (w : List UInt8) : List UInt8 := if b then w else []
/-- Some words with spaces between them, without the empty ones. -/
def joinW (ws : List (List UInt8)) : List UInt8 := Lib.join (ws.filter fun x => !x.isEmpty) [32]
def Ln.words (l : Ln) : List (List UInt8) := [keyTextL l.pr l.s l.d l.sp l.dp, sideW l.sd, clsOf l.cl, onlyW l.rp repliedW, onlyW l.ss assuredW, deadW, dec l.dl, seenW, dec l.sn]
def Ln.text (l : Ln) : List UInt8 := joinW l.words
/-- The class of a name. -/
def clsN (w : List UInt8) : Int := (List.range 9).foldl (fun (c : Int) (i : Nat) => if clsOf (i : Int) = w then (i : Int) else c) 0
/-- What is guessed from the words of a string. -/
def guess (ws : List (List UInt8)) : Ln :=
  let k := joinW (ws.take 3)
  ⟨kv (kvB k) (kPr k), kv (kvB k) (kS k), kv (kvB k) (kD k), kv (kvB k) (kSp k), kv (kvB k) (kDp k), if ws.getD 3 [] = outsideW then 1 else 0, clsN (ws.getD 4 []), ws.getD 5 [] == repliedW, ws.getD 6 [] == assuredW, atoiV (ws.getD (ws.length - 3) []), atoiV (ws.getD (ws.length - 1) [])⟩
def readLn (l : List UInt8) : Option Ln :=
  let ws := splitC 32 l
  if ws.length < 9 then none else if (guess ws).right && ((guess ws).text == l) then some (guess ws) else none
theorem lnRight_parts {l : Ln} (h : l.right = true) : l.sd ≤ 1 ∧ l.cl < 9 ∧ (l.ss = true → l.rp = true) ∧ 0 ≤ l.dl ∧ 0 ≤ l.sn := by
  unfold Ln.right at h
  simp only [Bool.and_eq_true, decide_eq_true_eq, Bool.or_eq_true, Bool.not_eq_true'] at h
  obtain ⟨⟨⟨⟨h1, h2⟩, h3⟩, h4⟩, h5⟩ := h
  refine ⟨h1, h2, fun hs => ?_, h4, h5⟩
  rcases h3 with h3 | h3
  · exact h3
  · rw [hs] at h3; cases h3
theorem cls_at (c : Int) (h0 : 0 ≤ c) (h1 : c < 9) : clsOf c ≠ [] ∧ (32 : UInt8) ∉ clsOf c ∧ clsN (clsOf c) = c := by
  have h : ∀ i : Nat, i < 9 → clsOf (i : Int) ≠ [] ∧ (32 : UInt8) ∉ clsOf (i : Int) ∧ clsN (clsOf (i : Int)) = (i : Int) := by decide
  have := h c.toNat (by omega)
  rwa [show ((c.toNat : Nat) : Int) = c by omega] at this
theorem side_at (sd : Int) (h0 : 0 ≤ sd) (h1 : sd ≤ 1) : sideW sd ≠ [] ∧ (32 : UInt8) ∉ sideW sd ∧ (if sideW sd = outsideW then (1 : Int) else 0) = sd := by
  rcases (by omega : sd = 0 ∨ sd = 1) with rfl | rfl <;> decide
theorem join_app (x : List UInt8) (r : List (List UInt8)) (h : r ≠ []) : Lib.join (x :: r) [32] = x ++ 32 :: Lib.join r [32] := by
  cases r with
  | nil => exact absurd rfl h
  | cons y t => simp [Lib.join]
/-- The words of the text of a right line. -/
def Ln.parts (l : Ln) : List (List UInt8) := dec l.pr :: (textL l.s ++ [58] ++ dec l.sp) :: (textL l.d ++ [58] ++ dec l.dp) :: sideW l.sd :: clsOf l.cl :: ((if l.rp then [repliedW] else []) ++ (if l.ss then [assuredW] else []) ++ [deadW, dec l.dl, seenW, dec l.sn])
theorem port_ne (a b : Int) : textL a ++ [58] ++ dec b ≠ [] := by simp
theorem port_chars (a b : Int) (h : 0 ≤ b) : (32 : UInt8) ∉ textL a ++ [58] ++ dec b := by
  have h1 := text_chars a 32 (by decide)
  have h2 := dec_digit b h 32 (by decide)
  simp [h1, h2]
theorem key_join (pr s d sp dp : Int) : keyTextL pr s d sp dp = Lib.join [dec pr, textL s ++ [58] ++ dec sp, textL d ++ [58] ++ dec dp] [32] := by
  unfold keyTextL; simp [Lib.join]
theorem join3_app (a b c : List UInt8) (r : List (List UInt8)) (h : r ≠ []) : Lib.join (Lib.join [a, b, c] [32] :: r) [32] = Lib.join (a :: b :: c :: r) [32] := by
  rw [join_app _ r h, join_app a (b :: c :: r) (by simp), join_app b (c :: r) (by simp), join_app c r h]
  simp [Lib.join]
theorem key_ne (pr s d sp dp : Int) : keyTextL pr s d sp dp ≠ [] := by unfold keyTextL; simp
theorem ln_text (l : Ln) (b : LnB l) (h : l.right = true) : l.text = Lib.join l.parts [32] := by
  obtain ⟨h1, h2, h3, h4, h5⟩ := lnRight_parts h
  have e1 := (side_at l.sd b.sd0 h1).1
  have e2 := (cls_at l.cl b.cl0 h2).1
  have e3 := key_ne l.pr l.s l.d l.sp l.dp
  have e4 := dec_neL l.dl
  have e5 := dec_neL l.sn
  unfold Ln.text joinW Ln.words Ln.parts
  rw [show ([keyTextL l.pr l.s l.d l.sp l.dp, sideW l.sd, clsOf l.cl, onlyW l.rp repliedW, onlyW l.ss assuredW, deadW, dec l.dl, seenW, dec l.sn].filter fun x => !x.isEmpty) =
    keyTextL l.pr l.s l.d l.sp l.dp :: sideW l.sd :: clsOf l.cl :: ((if l.rp then [repliedW] else []) ++ (if l.ss then [assuredW] else []) ++ [deadW, dec l.dl, seenW, dec l.sn]) from ?_]
  · rw [key_join, join3_app _ _ _ _ (by simp)]
  · have ne : ∀ x : List UInt8, x ≠ [] → x.isEmpty = false := fun x hx => by cases x with | nil => exact absurd rfl hx | cons _ _ => rfl
    simp only [List.filter_cons, List.filter_nil, ne _ e1, ne _ e2, ne _ e3, ne _ e4, ne _ e5, Bool.not_false, if_true]
    cases l.rp <;> cases l.ss <;> rfl
theorem ln_split (l : Ln) (b : LnB l) (h : l.right = true) : splitC 32 l.text = l.parts := by
  obtain ⟨h1, h2, h3, h4, h5⟩ := lnRight_parts h
  rw [ln_text l b h]
  refine split_join 32 _ (by simp [Ln.parts]) ?_
  intro p hp
  unfold Ln.parts at hp
  simp only [List.mem_cons, List.mem_append, List.not_mem_nil, or_false] at hp
  rcases hp with rfl | rfl | rfl | rfl | rfl | (hp | hp) | rfl | rfl | rfl | rfl
  · exact dec_digit _ b.key.r0 32 (by decide)
  · exact port_chars _ _ b.key.sp0
  · exact port_chars _ _ b.key.dp0
  · exact (side_at l.sd b.sd0 h1).2.1
  · exact (cls_at l.cl b.cl0 h2).2.1
  · split at hp
    · simp at hp; subst hp; decide
    · simp at hp
  · split at hp
    · simp at hp; subst hp; decide
    · simp at hp
  · decide
  · exact dec_digit _ h4 32 (by decide)
  · decide
  · exact dec_digit _ h5 32 (by decide)
theorem dec_not (n : Int) (h : 0 ≤ n) (w : List UInt8) (c : UInt8) (hc : c ∈ w) (hn : c.toNat < 48 ∨ 57 < c.toNat) : (dec n == w) = false := by
  rw [beq_eq_false_iff_ne]
  rintro rfl
  exact dec_digit n h c hn hc
theorem guess_parts (l : Ln) (b : LnB l) (h : l.right = true) : guess l.parts = l ∧ 9 ≤ l.parts.length := by
  obtain ⟨h1, h2, h3, h4, h5⟩ := lnRight_parts h
  have e1 := (side_at l.sd b.sd0 h1).2.2
  have e2 := (cls_at l.cl b.cl0 h2).2.2
  have e3 := atoiV_dec64 l.dl h4 b.dl1
  have e4 := atoiV_dec64 l.sn h5 b.sn1
  have hk : joinW (l.parts.take 3) = keyTextL l.pr l.s l.d l.sp l.dp := by
    unfold Ln.parts joinW
    have ne : ∀ x : List UInt8, x ≠ [] → x.isEmpty = false := fun x hx => by cases x with | nil => exact absurd rfl hx | cons _ _ => rfl
    simp only [List.take_succ_cons, List.take_zero, List.filter_cons, List.filter_nil, ne _ (dec_neL l.pr), ne _ (port_ne l.s l.sp), ne _ (port_ne l.d l.dp), Bool.not_false, if_true]
    rw [key_join]
  obtain ⟨k1, k2, k3, k4, k5⟩ := readKey_text l.pr l.s l.d l.sp l.dp b.key.r0 b.key.r1 b.key.s0 b.key.s1 b.key.d0 b.key.d1 b.key.sp0 b.key.sp1 b.key.dp0 b.key.dp1
  have hb : kvB (keyTextL l.pr l.s l.d l.sp l.dp) = true := by unfold kvB kText; rw [k1, k2, k3, k4, k5]; simp
  have n1 := dec_not l.dl h4 assuredW 97 (by decide) (by decide)
  unfold guess
  simp only [hk, hb, kv, k1, k2, k3, k4, k5, if_true]
  obtain ⟨pr, s, d, sp, dp, sd, cl, rp, ss, dl, sn⟩ := l
  simp only at *
  unfold Ln.parts
  simp only
  cases rp <;> cases ss
  · refine ⟨?_, by simp⟩
    simp [e1, e2, e3, e4, n1]
    decide
  · exact absurd (h3 rfl) (by simp)
  · refine ⟨?_, by simp⟩
    simp [e1, e2, e3, e4]
    decide
  · refine ⟨?_, by simp⟩
    simp [e1, e2, e3, e4]
/-- What is written is read back. -/
theorem readLn_text (l : Ln) (b : LnB l) (h : l.right = true) : readLn l.text = some l := by
  unfold readLn
  obtain ⟨h1, h2⟩ := guess_parts l b h
  simp only [ln_split l b h, h1]
  rw [if_neg (by omega), h]
  simp
/-- What is read is the text of what it gives. -/
theorem readLn_some {s : List UInt8} {l : Ln} (h : readLn s = some l) : l.right = true ∧ l.text = s ∧ l = guess (splitC 32 s) := by
  unfold readLn at h
  simp only at h
  split at h
  · cases h
  · split at h
    · rename_i h1
      simp only [Bool.and_eq_true, beq_iff_eq] at h1
      cases h
      exact ⟨h1.1, h1.2, rfl⟩
    · cases h
theorem clsN_bd (w : List UInt8) : 0 ≤ clsN w ∧ clsN w < 9 := by
  unfold clsN
  have : ∀ (n : Nat), n ≤ 9 → 0 ≤ (List.range n).foldl (fun (c : Int) (i : Nat) => if clsOf (i : Int) = w then (i : Int) else c) 0 ∧ (List.range n).foldl (fun (c : Int) (i : Nat) => if clsOf (i : Int) = w then (i : Int) else c) 0 < 9 := by
    intro n
    induction n with
    | zero => intro _; simp
    | succ n ih =>
      intro hn
      rw [List.range_succ, List.foldl_append]
      simp only [List.foldl_cons, List.foldl_nil]
      split
      · omega
      · exact ih (by omega)
  exact this 9 (Nat.le_refl _)
theorem guess_b (ws : List (List UInt8)) : LnB (guess ws) := by
  have h1 := atoiV_bounds (ws.getD (ws.length - 3) [])
  have h2 := atoiV_bounds (ws.getD (ws.length - 1) [])
  have h3 := kv_bounds (joinW (ws.take 3))
  have h4 := clsN_bd (ws.getD 4 [])
  unfold guess
  constructor <;> dsimp only
  · exact h3
  · split <;> omega
  · split <;> omega
  · exact h4.1
  · omega
  · exact h1.1
  · exact h1.2
  · exact h2.1
  · exact h2.2
theorem readLn_b {s : List UInt8} {l : Ln} (h : readLn s = some l) : LnB l := by rw [(readLn_some h).2.2]; exact guess_b _
end Go.Ab
