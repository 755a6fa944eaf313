/- What the cards of this seat share: a call that turns nothing of what was there; codes read behind the call as before it. -/
import Derived.Test.YtmfnholhhakgaaaGreatDoorMge
import Derived.Test.YtmfnholhhakgaaaGreatDoorOpn
namespace Go.Proofs.YtmfnholhhakgaaaGreatDoor
open Go.ChangeShapes Go.WideShapes Go.ChangeAt Go.RowKit
set_option maxRecDepth 100000
/-- A call that turns nothing of what was there, and answers plain data: the arguments and variables read at the blocks that were there. -/
theorem post_of_below2 {H : Type} {enc : TypeId × Value → H} {P : Program} {f : Func} {s : ChangeSpec} {apart fresh handsOn : Bool} {W W' : World} {args : Array Value} {v : Value} {ds gs : List (DataW H)} {before pa pv : List MemPlace}
    (hW : DataW.Whole enc P f.params.toList s.vars apart W args.toList ds gs before)
    (hres : ∀ (b : Nat) (sp : Nat → Bool) (hd : Bool), DataW.TrodAll enc P W' b sp hd f.resultTypes.toList (v.resultList f.resultTypes.size) (s.fn H (ds ++ gs)).results [])
    (hargs : DataW.TrodAll enc P W' 0 (fun b => decide (b < W.heap.size)) true f.params.toList args.toList (s.fn H (ds ++ gs)).args pa)
    (hvars : DataW.TrodVars enc P W' (fun b => decide (b < W.heap.size)) s.vars (s.fn H (ds ++ gs)).vars pv)
    (hps : before = pa ++ pv) (hb : Below W.heap.size W W') : s.post enc P f apart fresh handsOn false W args v W' := by
  refine ⟨ds, gs, before, [], pa, pv, hW, hres _ _ _, hargs, hvars, World.keptBut_mono (fun p hp => ⟨hp, ?_⟩) (hb.frame _), fun h => (by cases h)⟩
  rw [hps, List.mem_append] at hp
  exact Or.inr hp
theorem laidOut : laidOutB Tryz.prog = true := by kernel_rfl
theorem read30 : Tryz.prog.readableRec 30 = true := by kernel_rfl
theorem row30 : (30 : Nat) < Tryz.prog.types.size := of_decide_eq_true (by kernel_rfl)
/-- A code reads behind the call as it did. -/
theorem code_again {H : Type} {enc : TypeId × Value → H} {W W' : World} {v : Value} {d : DataW H} {ps : List MemPlace} (h : DataW.Trod enc Tryz.prog W 0 (fun _ => true) true 30 v d ps) (hb : Below W.heap.size W W') (hlt : ∀ x ∈ ps, x.block < W.heap.size) :
    DataW.Trod enc Tryz.prog W' 0 (fun b => decide (b < W.heap.size)) true 30 v d ps := Below.trod laidOut read30 row30 h hb hlt
theorem sized_of {H : Type} {ts : List TypeId} {ds : List (DataW H)} (hz : (DataW.weightsEach Tryz.prog ts ds).all (· ≤ reachBytes) = true) {j : Nat} {t : TypeId} {d : DataW H} (ht : ts[j]? = some t) (hd : ds[j]? = some d) : Sized t d := fun m hm => by
  have := List.all_eq_true.1 hz m (DataW.weights_mem_each ht hd m hm)
  simpa using this
end Go.Proofs.YtmfnholhhakgaaaGreatDoor
