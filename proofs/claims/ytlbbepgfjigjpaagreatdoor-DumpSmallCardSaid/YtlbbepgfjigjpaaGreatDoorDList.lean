/- The laws' own lines, out of small numbers. The laws' own dumps (plain): the first line of each key, in the order of keys. List of layer 38, walked. -/
import Derived.Test.YtlbbepgfjigjpaaGreatDoorDApp
import Derived.Deep.RegionHeld3
import Derived.Laws.AppendOwnNone
namespace Go.Ab
open Go.RowKit Go.Proofs.YtlbbepgfjigjpaaGreatDoor
/-- A line in small numbers. -/
structure Wd where
  pr : Int
  s : Int
  d : Int
  dp : Int
  sd : Int
  cl : Int
  fl : Int
  dl : Int
  sn : Int
def Wd.cells (x : Wd) : List Value := [.int .u8 x.pr, .int .u8 x.s, .int .u8 x.d, .int .u8 x.dp, .int .u8 x.sd, .int .u8 x.cl, .int .u8 x.fl, .int .u16 x.dl, .int .u16 x.sn]
theorem ln_all (x : Ln) : x.cells.toArray.all (·.oneCell') = true := Array.all_eq_true_iff_forall_mem.2 (fun u hu => x.one u (by simpa using hu))
end Go.Ab
namespace Go.Proofs.YtlbbepgfjigjpaaGreatDoor
open Go.RowKit Go.Ab
end Go.Proofs.YtlbbepgfjigjpaaGreatDoor
namespace Go.Ab
open Go.RowKit Go.Proofs.YtlbbepgfjigjpaaGreatDoor
theorem ordered_of_srt (l : List Ln) (hs : Srt l) (hr : ∀ x ∈ l, x.right = true) : orderedL l = true := by
  refine ordered_yes fun k hk => ?_
  have hx : l[k]? = some l[k] := List.getElem?_eq_getElem hk
  cases k with
  | zero => rw [okAt_zero l _ hx]; exact hr _ (List.mem_of_getElem? hx)
  | succ k =>
    have hy : l[k]? = some l[k] := List.getElem?_eq_getElem (by omega)
    rw [okAt_succ l k _ _ hx hy, hr _ (List.mem_of_getElem? hx), Bool.true_and]
    exact decide_eq_true ((List.pairwise_iff_getElem.1 hs) k (k + 1) (by omega) hk (by omega))
end Go.Ab
namespace Go.Ab
open Go.RowKit Go.Proofs.YtlbbepgfjigjpaaGreatDoor
theorem fresh_own (X : World) (n : Nat) {base size : Nat} {e : TypeId} (h : X.heap.size = n) (hb : base ≤ n) : (X.alloc (.cells #[] e)).ownsRow base e size (.slice (some ⟨n, 0, none⟩) 0 0) 0 [] := by
  subst h; exact World.ownsRow_made X #[] 0 hb (by decide) (by simp)
theorem add_zero_off (g t : Nat) : Addr.add ⟨g, 0, none⟩ t = ⟨g, t, none⟩ := by cases t <;> simp [Addr.add]
theorem add_off (g o t : Nat) : Addr.add ⟨g, o, none⟩ t = ⟨g, o + t, none⟩ := by cases t <;> simp [Addr.add]
end Go.Ab
namespace Go.Proofs.YtlbbepgfjigjpaaGreatDoor
open Go.RowKit Go.Ab
attribute [local go_sem high] eq_key
end Go.Proofs.YtlbbepgfjigjpaaGreatDoor
