/- The card of AddrKeys. -/
import Derived.Test.YtbcdeeiddpcdeaaDoorOpen
import Derived.Test.YtbcdeeiddpcdeaaDoorKeysAll
namespace Go.Proofs.YtbcdeeiddpcdeaaDoor.addrKeys
open Go.ChangeShapes Go.WideShapes Go.ChangeAt Go.RowKit Go.Ab
def args0 : Array Value := #[.agg #[.int .u8 0, .int .u32 0, .int .u32 0, .int .u16 0, .int .u16 0], .agg #[.int .u8 0, .int .u32 0, .int .u32 0, .int .u16 0, .int .u16 0], .agg #[.int .u8 0, .int .u32 0, .int .u32 0, .int .u16 0, .int .u16 0]]
set_option maxRecDepth 100000 in
theorem contract (H : Type) (enc : TypeId × Value → H) (W : World) (base : Nat) (args : Array Value) (ds gs : List (DataW H)) (before : List MemPlace)
    (hval : ∀ (j : Nat) t v, Tryd.f9.params[j]? = some t → args[j]? = some v → Value.okWide Tryd.prog W .any base t v)
    (hW : DataW.Whole enc Tryd.prog Tryd.f9.params.toList Rows.addrKeysSpec.vars false W args.toList ds gs before) (hL : laidMetH Tryd.prog laidList W) (hsh : W.ShapedOpen Tryd.prog) :
    Calls Tryd.prog 9 args W fun e W' => ∃ v, e = .returned v ∧ Rows.addrKeysSpec.post enc Tryd.prog Tryd.f9 false true false false W args v W' := by
  have g : Good W := good_of hL hsh
  clear hL hsh
  have hW' := hW
  obtain ⟨p, q, hA0, hV, rfl, hfz, hnd⟩ := hW
  have hA : DataW.TrodAll enc Tryd.prog W 0 (fun _ => true) true Tryd.f9.params.toList args.toList ds p := hA0
  rw [Tryd.params9] at hA hval
  obtain ⟨v0, vs0, d0, ds0, p0, q0, hargs, rfl, rfl, h0, r0⟩ := trodAll_cons hA
  obtain ⟨v1, vs1, d1, ds1, p1, q1, rfl, rfl, rfl, h1, r1⟩ := trodAll_cons r0
  obtain ⟨v2, vs2, d2, ds2, p2, q2, rfl, rfl, rfl, h2, r2⟩ := trodAll_cons r1
  obtain ⟨rfl, rfl, rfl⟩ := trodAll_nil r2
  obtain rfl : args = #[v0, v1, v2] := by cases args; simp_all
  obtain ⟨rfl, rfl⟩ := trodVars_none hV
  obtain ⟨a0, b0, c0, e0, f0, rfl, rfl, rfl, k0⟩ := open_key (hval 0 52 v0 rfl rfl) h0
  obtain ⟨a1, b1, c1, e1, f1, rfl, rfl, rfl, k1⟩ := open_key (hval 1 52 v1 rfl rfl) h1
  obtain ⟨a2, b2, c2, e2, f2, rfl, rfl, rfl, k2⟩ := open_key (hval 2 52 v2 rfl rfl) h2
  clear hA0 hval
  refine (keys_any a0 b0 c0 e0 f0 a1 b1 c1 e1 f1 a2 b2 c2 e2 f2 W g k0 k1 k2).mono fun e W' ⟨he, x, hx⟩ => ?_
  subst he
  have hb : Below W.heap.size W W' := hx ▸ x.up
  exact ⟨_, rfl, _, _, _, [], ([] ++ ([] ++ ([] ++ []))), [], hW', trodAll_cons_mk (shut_bool Tryd.underlying4 _) trodAll_mk0, (trodAll_cons_mk (shut_key k0) (trodAll_cons_mk (shut_key k1) (trodAll_cons_mk (shut_key k2) trodAll_mk0))), rfl, hb.frame _, fun h => by cases h⟩
theorem reads (os : Os) {H : Type} (enc : TypeId × Value → H) : ∃ places, DataW.whole enc Tryd.prog ((laidWorld os).forCall (fun _ _ => 0) ⟨#[], args0, []⟩).memory Tryd.f9.params.toList Rows.addrKeysSpec.vars false args0.toList 8 = some ([keyD 0 0 0 0 0, keyD 0 0 0 0 0, keyD 0 0 0 0 0], [], places) :=
  ⟨[], by kernel_rfl⟩
set_option maxRecDepth 100000 in
theorem lifted (os : Os) (started : os.Started) (H : Type) (enc : TypeId × Value → H) (F : Stop.Interp) :
    ReturnsInHanded {} Tryd.checked os 9 .any ((OpenSpec.ofChange Rows.addrKeysSpec).preRow enc Tryd.prog Tryd.f9 Rows.addrKeysRow.domain false Rows.addrKeysRow.laid) (((OpenSpec.ofChange Rows.addrKeysSpec).at F).post enc Tryd.prog Tryd.f9 false true false false) := by
  obtain ⟨places, hx⟩ := reads os enc
  refine returnsInHanded_of_row (C := Tryd.checked) (s := (OpenSpec.ofChange Rows.addrKeysSpec)) own started (by kernel_rfl) Tryd.func9
    (witness_row_atRef (enc := enc) (C := Tryd.checked) false (laidWorld os) args0 rfl (by kernel_rfl) (by kernel_rfl) (by kernel_rfl)
      (OpenSpec.preRow_of_cond 8 hx (by kernel_rfl) (fun k hk => by cases hk) (by kernel_rfl) (laid_met os _))) ?_
  intro W base args ds gs before hval hW _ hcond _ hL hsh _
  exact contract H enc W base args ds gs before hval hW hL hsh
theorem said : Rows.AddrKeysSaid :=
  OpenClaim.holds_of_cond 9 Tryd.f9 rfl rfl rfl rfl rfl rfl rfl ⟨rfl, rfl, rfl, rfl, rfl⟩ rfl rfl rfl rfl rfl (by kernel_rfl) Tryd.func9 (by kernel_rfl)
    (of_decide_eq_true (by kernel_rfl)) (by unfold Func.isWrapper; first | (rw [if_pos (by decide +kernel)]; kernel_rfl) | (rw [if_neg (by decide +kernel)]; exact ⟨rfl, rfl⟩))
    (fun os started H enc _ F => by rw [OpenClaim.pre_eq_preRow]; exact lifted os started H enc F)
theorem plain (f : FuncId) (fn : Func) (hf : Tryd.pinned.checked.prog.funcNamed "baffle/bafflelaw03.AddrKeys" = some f) (hfn : Tryd.pinned.checked.prog.funcs[f]? = some fn) :
    true = Tryd.pinned.checked.prog.looks [] ∧ ∀ (j : Nat) t, fn.params[j]? = some t → Tryd.pinned.checked.prog.wantsStandIn t = false := by
  obtain rfl : f = 9 := Option.some.inj ((show Tryd.prog.funcNamed "baffle/bafflelaw03.AddrKeys" = some 9 by kernel_rfl).symm.trans hf) |>.symm
  obtain rfl : fn = Tryd.f9 := (Option.some.inj (Tryd.func9.symm.trans hfn)).symm
  refine ⟨by kernel_rfl, fun j t ht => ?_⟩
  rw [Tryd.params9] at ht
  have hm : t = 52 := by have := Array.mem_of_getElem? ht; simp at this; omega
  rcases hm with rfl
  · exact (show Tryd.prog.wantsStandIn 52 = false by kernel_rfl)
theorem addrKeys_card : Rows.AddrKeysCardSaid :=
  Claim7.holds_tied_plain_at .later [] _ _ _ _ said (fun _ h => by cases h) (by kernel_rfl) (fun _ h => by cases h) addrKeys_row_tie rfl ⟨rfl, rfl⟩ (by kernel_rfl) rfl plain (by kernel_rfl)
end Go.Proofs.YtbcdeeiddpcdeaaDoor.addrKeys
