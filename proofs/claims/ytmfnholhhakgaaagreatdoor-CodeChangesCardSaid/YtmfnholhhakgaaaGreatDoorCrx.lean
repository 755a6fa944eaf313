/- An instruction as an argument: opened, and read behind the call as before it. -/
import Derived.Test.YtmfnholhhakgaaaGreatDoorCrd
namespace Go.Proofs.YtmfnholhhakgaaaGreatDoor
open Go.ChangeShapes Go.WideShapes Go.ChangeAt Go.RowKit
set_option maxRecDepth 100000
theorem open_instr {H : Type} {enc : TypeId × Value → H} {w : World} {base : Nat} {spare : Nat → Bool} {held : Bool} {r : Reach} {b0 : Nat} {v : Value} {d : DataW H} {p : List MemPlace} (hv : Value.okWide Tryz.prog w r b0 52 v) (h : DataW.Trod enc Tryz.prog w base spare held 52 v d p) :
    ∃ x : InstrD, v = .agg #[.int .i64 x.op, .int .i64 x.a, .int .i64 x.b, .int .i64 x.c] := by
  obtain ⟨cs, rfl, hsz⟩ := okWide_struct Tryz.underlying52 hv
  obtain ⟨l⟩ := cs
  have hl : l.length = 4 := hsz.trans (show Tryz.prog.cellsOf 52 = 4 by kernel_rfl)
  obtain ⟨fuel, hf⟩ := h
  obtain ⟨y, hy, _⟩ := el_instr fuel l _ hl hf
  exact ⟨y, by rw [hy]; rfl⟩
theorem read52 : Tryz.prog.readableRec 52 = true := by kernel_rfl
theorem row52 : (52 : Nat) < Tryz.prog.types.size := of_decide_eq_true (by kernel_rfl)
theorem instr_again {H : Type} {enc : TypeId × Value → H} {W W' : World} {v : Value} {d : DataW H} {ps : List MemPlace} (h : DataW.Trod enc Tryz.prog W 0 (fun _ => true) true 52 v d ps) (hb : Below W.heap.size W W') (hlt : ∀ x ∈ ps, x.block < W.heap.size) :
    DataW.Trod enc Tryz.prog W' 0 (fun b => decide (b < W.heap.size)) true 52 v d ps := Below.trod laidOut read52 row52 h hb hlt
end Go.Proofs.YtmfnholhhakgaaaGreatDoor
