/- CodeParts: its walk, put together: it answers true. -/
import Derived.Test.YtmfnholhhakgaaaGreatDoorPta
import Derived.Test.YtmfnholhhakgaaaGreatDoorPtb
import Derived.Test.YtmfnholhhakgaaaGreatDoorPtc
import Derived.Test.YtmfnholhhakgaaaGreatDoorPtd
import Derived.Test.YtmfnholhhakgaaaGreatDoorPtx
namespace Go.Proofs.YtmfnholhhakgaaaGreatDoor
open Go Go.Proofs Go.RowKit Go.Sort
theorem CodeParts_any (h g k : CodeH) (a b c : CodeD) (n : Int) (w : World) (Ha : CodeAt w w.heap.size h a) (Hb : CodeAt w w.heap.size g b) (Hc : CodeAt w w.heap.size k c) (hv : Vars w.heap.size w) :
    Calls Tryz.prog 10 #[.agg #[.slice h.i.a h.i.n h.i.c, .slice h.p.a h.p.n h.p.c, .slice h.t.a h.t.n h.t.c, .slice h.s.a h.s.n h.s.c, .slice h.g.a h.g.n h.g.c, .slice h.r.a h.r.n h.r.c, .slice h.o.a h.o.n h.o.c], .agg #[.slice g.i.a g.i.n g.i.c, .slice g.p.a g.p.n g.p.c, .slice g.t.a g.t.n g.t.c, .slice g.s.a g.s.n g.s.c, .slice g.g.a g.g.n g.g.c, .slice g.r.a g.r.n g.r.c, .slice g.o.a g.o.n g.o.c], .agg #[.slice k.i.a k.i.n k.i.c, .slice k.p.a k.p.n k.p.c, .slice k.t.a k.t.n k.t.c, .slice k.s.a k.s.n k.s.c, .slice k.g.a k.g.n k.g.c, .slice k.r.a k.r.n k.r.c, .slice k.o.a k.o.n k.o.c], .int .i64 n] w fun e w' => e = .returned (.bool true) ∧ Below w.heap.size w w' := by
  cases sa : smallB a with
  | false => exact CodeParts_large h g k a b c n w Ha Hb Hc hv (.inl sa)
  | true =>
  cases sb : smallB b with
  | false => exact CodeParts_large h g k a b c n w Ha Hb Hc hv (.inr (.inl ⟨sa, sb⟩))
  | true =>
  cases sc : smallB c with
  | false => exact CodeParts_large h g k a b c n w Ha Hb Hc hv (.inr (.inr (.inl ⟨sa, sb, sc⟩)))
  | true =>
  by_cases la : h.i.n ≤ 150
  case neg => exact CodeParts_large h g k a b c n w Ha Hb Hc hv (.inr (.inr (.inr (.inl ⟨sa, sb, sc, by omega⟩))))
  by_cases lb : g.i.n ≤ 150
  case neg => exact CodeParts_large h g k a b c n w Ha Hb Hc hv (.inr (.inr (.inr (.inr (.inl ⟨sa, sb, sc, la, by omega⟩)))))
  by_cases lc : k.i.n ≤ 150
  case neg => exact CodeParts_large h g k a b c n w Ha Hb Hc hv (.inr (.inr (.inr (.inr (.inr ⟨sa, sb, sc, la, lb, by omega⟩)))))
  cases fb : fineB b (largeB g) with
  | false =>
    have e1 : (fineB a (largeB h) && fineB b (largeB g)) = false := by rw [fb, Bool.and_false]
    exact CodeParts_bad0 h g k a b c n w Ha Hb Hc hv sa sb sc la lb lc e1 (by rw [fb, Bool.false_and])
  | true =>
  cases fa : fineB a (largeB h) with
  | false =>
    have e1 : (fineB a (largeB h) && fineB b (largeB g)) = false := by rw [fa, Bool.false_and]
    cases fc : fineB c (largeB k) with
    | false => exact CodeParts_bad0 h g k a b c n w Ha Hb Hc hv sa sb sc la lb lc e1 (by rw [fc, Bool.and_false])
    | true => exact CodeParts_bad1 h g k a b c n w Ha Hb Hc hv sa sb sc la lb lc e1 fb fc
  | true =>
  obtain ⟨la0, WA⟩ := fine_well fa
  obtain ⟨lb0, WB⟩ := fine_well fb
  obtain ⟨na0, _⟩ := large_sizes la0
  obtain ⟨nb0, _⟩ := large_sizes lb0
  have ea := Ha.ni.1
  have eb := Hb.ni.1
  obtain ⟨MT, hMT, hent⟩ := ent_join Ha.lens WA WB (by omega) (by omega)
  obtain ⟨K, hK, hKd⟩ : ∃ K : Nat, K < g.i.n ∧ ((n < 0 ∧ K = 0) ∨ (0 ≤ n ∧ n % (g.i.n : Int) = (K : Int))) := by
    by_cases hn : n < 0
    · exact ⟨0, nb0, .inl ⟨hn, rfl⟩⟩
    · obtain ⟨m, rfl⟩ := Int.eq_ofNat_of_zero_le (show 0 ≤ n by omega)
      exact ⟨m % g.i.n, Nat.mod_lt _ nb0, .inr ⟨by omega, (Int.natCast_emod m g.i.n).symm⟩⟩
  cases hq : (entL (joinD h a b) == entL a ++ (entL b).map (· + (h.i.n : Int))) with
  | true =>
    cases fc : fineB c (largeB k) with
    | false => exact CodeParts_01 h g k a b c n w Ha Hb Hc hv sa sb sc la lb lc fa fb fc _ _ MT _ _ _ _ rfl rfl hMT rfl rfl rfl rfl hq K hK hKd
    | true => exact CodeParts_11 h g k a b c n w Ha Hb Hc hv sa sb sc la lb lc fa fb fc _ _ MT _ _ _ _ rfl rfl hMT rfl rfl rfl rfl hq K hK hKd
  | false =>
    have hq2 : (entL (joinD h a b) == entL a ++ MT.map (· + (h.i.n : Int))) = true := by
      rcases hent with e | e
      · rw [e, beq_self_eq_true] at hq
        cases hq
      · rw [e]
        exact beq_self_eq_true _
    cases fc : fineB c (largeB k) with
    | false => exact CodeParts_00 h g k a b c n w Ha Hb Hc hv sa sb sc la lb lc fa fb fc _ _ MT _ _ _ _ rfl rfl hMT rfl rfl rfl rfl hq hq2 K hK hKd
    | true => exact CodeParts_10 h g k a b c n w Ha Hb Hc hv sa sb sc la lb lc fa fb fc _ _ MT _ _ _ _ rfl rfl hMT rfl rfl rfl rfl hq hq2 K hK hKd
end Go.Proofs.YtmfnholhhakgaaaGreatDoor
