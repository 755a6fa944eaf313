/- code.Check: the contract. -/
import Derived.Test.YtmfnholhhakgaaaGreatDoorMhe
import Derived.Test.YtmfnholhhakgaaaGreatDoorMhd
import Derived.StillTailTactics
namespace Go.Proofs.YtmfnholhhakgaaaGreatDoor
open Go Go.Proofs Go.RowKit
set_option maxRecDepth 100000
theorem findNow_rules : ∀ (L : List RuleV) (k q : Nat) (r : RuleV), L[q]? = some r → Instr.findNow (.int .i64) (.int .i64 ((k + q : Nat) : Int)) ((L.zipIdx k).map fun x => ({ key := .int .i64 (x.2 : Nat), val := x.1.val, born := x.2 } : MapEntry)) k = some (some (k + q, r.val))
  | [], _, _, _, h => by simp at h
  | x :: L, k, 0, r, h => by
    simp at h
    subst h
    simp [List.zipIdx_cons, Instr.findNow, Instr.sameNow]
  | x :: L, k, q + 1, r, h => by
    have ih := findNow_rules L (k + 1) q r (by simpa using h)
    have hb : (((k + (q + 1) : Nat) : Int) == ((k : Nat) : Int)) = false := by simp; omega
    simp only [List.zipIdx_cons, List.map_cons, Instr.findNow, Instr.sameNow, if_true, hb]
    rw [show k + (q + 1) = k + 1 + q from by omega]
    exact ih
theorem look_rule {N : Nat} {w0 w : World} {L : List RuleV} (H : RInv N w0 w L) {q : Nat} {r : RuleV} (hq : L[q]? = some r) :
    (Instr.lookup 81 (.map (some N)) (.int .i64 (q : Nat)) false).run Tryz.prog w = .ok r.val w := by
  have h := findNow_rules L 0 q r hq
  rw [Nat.zero_add] at h
  exact run_lookup_ok Tryz.underlying81 Tryz.underlying3 w H.m _ h false
theorem enters90 : Enters 90 := enters_of Tryz.func90 (by kernel_rfl) rfl
theorem enters91 : Enters 91 := enters_of Tryz.func91 (by kernel_rfl) rfl
theorem enters92 : Enters 92 := enters_of Tryz.func92 (by kernel_rfl) rfl
theorem enters93 : Enters 93 := enters_of Tryz.func93 (by kernel_rfl) rfl
theorem enters94 : Enters 94 := enters_of Tryz.func94 (by kernel_rfl) rfl
theorem enters95 : Enters 95 := enters_of Tryz.func95 (by kernel_rfl) rfl
theorem enters96 : Enters 96 := enters_of Tryz.func96 (by kernel_rfl) rfl
theorem enters97 : Enters 97 := enters_of Tryz.func97 (by kernel_rfl) rfl
theorem enters98 : Enters 98 := enters_of Tryz.func98 (by kernel_rfl) rfl
theorem enters99 : Enters 99 := enters_of Tryz.func99 (by kernel_rfl) rfl
theorem enters100 : Enters 100 := enters_of Tryz.func100 (by kernel_rfl) rfl
theorem enters101 : Enters 101 := enters_of Tryz.func101 (by kernel_rfl) rfl
theorem enters140 : Enters 140 := enters_of Tryz.func140 (by kernel_rfl) rfl
/-- What is needed of the rule of a kind: a function value whose call says whether a number is valid. -/
theorem rule_call (b0 b1 b3 b5 b6 b7 b8 b18 b19 b20 b22 b23 b24 : Nat) (q : Nat) (hq : q < 25) : ∃ (f : FuncId) (caps : Array Value) (r : RuleV), (ruleList b0 b1 b3 b5 b6 b7 b8 b18 b19 b20 b22 b23 b24)[q]? = some r ∧ r.val = .agg #[.func (.func f) #[] caps] ∧ Enters f ∧
    ∀ (h : CodeH) (c : CodeD) (n : Int) (N : Nat) (w : World), r.ok N w → CodeAt w w.heap.size h c → Calls Tryz.prog f (#[.agg #[.slice h.i.a h.i.n h.i.c, .slice h.p.a h.p.n h.p.c, .slice h.t.a h.t.n h.t.c, .slice h.s.a h.s.n h.s.c, .slice h.g.a h.g.n h.g.c, .slice h.r.a h.r.n h.r.c, .slice h.o.a h.o.n h.o.c], .int .i64 n] ++ caps) w fun e w' => e = .returned (.bool (opnd c q n)) ∧ Below w.heap.size w w' := by
  match q, hq with
  | 0, _ => exact ⟨140, #[.pointer (some ⟨b0, 0, none⟩), .pointer (some ⟨b0 + 1, 0, none⟩)], .btw b0 (0) 0, rfl, rfl, enters140, fun h c n N w hr _ => rule140 h n (0) 0 b0 (b0 + 1) w hr.2.1 hr.2.2⟩
  | 1, _ => exact ⟨140, #[.pointer (some ⟨b1, 0, none⟩), .pointer (some ⟨b1 + 1, 0, none⟩)], .btw b1 (-2147483647) 2147483647, rfl, rfl, enters140, fun h c n N w hr _ => rule140 h n (-2147483647) 2147483647 b1 (b1 + 1) w hr.2.1 hr.2.2⟩
  | 2, _ => exact ⟨90, #[], .lit 90, rfl, rfl, enters90, fun h c n N w _ H => rule90 h c n w H⟩
  | 3, _ => exact ⟨140, #[.pointer (some ⟨b3, 0, none⟩), .pointer (some ⟨b3 + 1, 0, none⟩)], .btw b3 (0) 1, rfl, rfl, enters140, fun h c n N w hr _ => rule140 h n (0) 1 b3 (b3 + 1) w hr.2.1 hr.2.2⟩
  | 4, _ => exact ⟨91, #[], .lit 91, rfl, rfl, enters91, fun h c n N w _ H => rule91 h c n w H⟩
  | 5, _ => exact ⟨140, #[.pointer (some ⟨b5, 0, none⟩), .pointer (some ⟨b5 + 1, 0, none⟩)], .btw b5 (0) 200, rfl, rfl, enters140, fun h c n N w hr _ => rule140 h n (0) 200 b5 (b5 + 1) w hr.2.1 hr.2.2⟩
  | 6, _ => exact ⟨140, #[.pointer (some ⟨b6, 0, none⟩), .pointer (some ⟨b6 + 1, 0, none⟩)], .btw b6 (0) 1999, rfl, rfl, enters140, fun h c n N w hr _ => rule140 h n (0) 1999 b6 (b6 + 1) w hr.2.1 hr.2.2⟩
  | 7, _ => exact ⟨140, #[.pointer (some ⟨b7, 0, none⟩), .pointer (some ⟨b7 + 1, 0, none⟩)], .btw b7 (-1) 1999, rfl, rfl, enters140, fun h c n N w hr _ => rule140 h n (-1) 1999 b7 (b7 + 1) w hr.2.1 hr.2.2⟩
  | 8, _ => exact ⟨140, #[.pointer (some ⟨b8, 0, none⟩), .pointer (some ⟨b8 + 1, 0, none⟩)], .btw b8 (0) 2000, rfl, rfl, enters140, fun h c n N w hr _ => rule140 h n (0) 2000 b8 (b8 + 1) w hr.2.1 hr.2.2⟩
  | 9, _ => exact ⟨92, #[], .lit 92, rfl, rfl, enters92, fun h c n N w _ H => rule92 h c n w⟩
  | 10, _ => exact ⟨93, #[], .lit 93, rfl, rfl, enters93, fun h c n N w _ H => rule93 h c n w⟩
  | 11, _ => exact ⟨94, #[], .lit 94, rfl, rfl, enters94, fun h c n N w _ H => rule94 h c n w H⟩
  | 12, _ => exact ⟨95, #[], .lit 95, rfl, rfl, enters95, fun h c n N w _ H => rule95 h c n w H⟩
  | 13, _ => exact ⟨96, #[], .lit 96, rfl, rfl, enters96, fun h c n N w _ H => rule96 h c n w H⟩
  | 14, _ => exact ⟨97, #[], .lit 97, rfl, rfl, enters97, fun h c n N w _ H => rule97 h c n w H⟩
  | 15, _ => exact ⟨98, #[], .lit 98, rfl, rfl, enters98, fun h c n N w _ H => rule98 h c n w H⟩
  | 16, _ => exact ⟨99, #[], .lit 99, rfl, rfl, enters99, fun h c n N w _ H => rule99 h c n w H⟩
  | 17, _ => exact ⟨100, #[], .lit 100, rfl, rfl, enters100, fun h c n N w _ H => rule100 h c n w H⟩
  | 18, _ => exact ⟨140, #[.pointer (some ⟨b18, 0, none⟩), .pointer (some ⟨b18 + 1, 0, none⟩)], .btw b18 (0) 8, rfl, rfl, enters140, fun h c n N w hr _ => rule140 h n (0) 8 b18 (b18 + 1) w hr.2.1 hr.2.2⟩
  | 19, _ => exact ⟨140, #[.pointer (some ⟨b19, 0, none⟩), .pointer (some ⟨b19 + 1, 0, none⟩)], .btw b19 (1) 4, rfl, rfl, enters140, fun h c n N w hr _ => rule140 h n (1) 4 b19 (b19 + 1) w hr.2.1 hr.2.2⟩
  | 20, _ => exact ⟨140, #[.pointer (some ⟨b20, 0, none⟩), .pointer (some ⟨b20 + 1, 0, none⟩)], .btw b20 (1) 2000, rfl, rfl, enters140, fun h c n N w hr _ => rule140 h n (1) 2000 b20 (b20 + 1) w hr.2.1 hr.2.2⟩
  | 21, _ => exact ⟨101, #[], .lit 101, rfl, rfl, enters101, fun h c n N w _ H => rule101 h c n w⟩
  | 22, _ => exact ⟨140, #[.pointer (some ⟨b22, 0, none⟩), .pointer (some ⟨b22 + 1, 0, none⟩)], .btw b22 (3) 18, rfl, rfl, enters140, fun h c n N w hr _ => rule140 h n (3) 18 b22 (b22 + 1) w hr.2.1 hr.2.2⟩
  | 23, _ => exact ⟨140, #[.pointer (some ⟨b23, 0, none⟩), .pointer (some ⟨b23 + 1, 0, none⟩)], .btw b23 (1) 3, rfl, rfl, enters140, fun h c n N w hr _ => rule140 h n (1) 3 b23 (b23 + 1) w hr.2.1 hr.2.2⟩
  | 24, _ => exact ⟨140, #[.pointer (some ⟨b24, 0, none⟩), .pointer (some ⟨b24 + 1, 0, none⟩)], .btw b24 (2) 9, rfl, rfl, enters140, fun h c n N w hr _ => rule140 h n (2) 9 b24 (b24 + 1) w hr.2.1 hr.2.2⟩
  | k + 25, hk => exact absurd hk (by omega)

/-- The kinds of the operands of an operation are numbers of rules. -/
theorem opK_lt (n : Int) : (∃ k : Nat, k < 25 ∧ opK0 n = k) ∧ (∃ k : Nat, k < 25 ∧ opK1 n = k) ∧ (∃ k : Nat, k < 25 ∧ opK2 n = k) := by
  unfold opK0 opK1 opK2
  have hall : ∀ x ∈ fmtTab, (0 ≤ x.2.1 ∧ x.2.1 < 25) ∧ (0 ≤ x.2.2.1 ∧ x.2.2.1 < 25) ∧ (0 ≤ x.2.2.2 ∧ x.2.2.2 < 25) := by decide +kernel
  cases h : opAt n with
  | none => exact ⟨⟨0, by decide, rfl⟩, ⟨0, by decide, rfl⟩, ⟨0, by decide, rfl⟩⟩
  | some x =>
    have hx : x ∈ fmtTab := by
      unfold opAt at h
      split at h
      · exact List.mem_of_getElem? h
      · cases h
    obtain ⟨⟨a, b⟩, ⟨c, d⟩, ⟨e, f⟩⟩ := hall x hx
    exact ⟨⟨x.2.1.toNat, by omega, by simp; omega⟩, ⟨x.2.2.1.toNat, by omega, by simp; omega⟩, ⟨x.2.2.2.toNat, by omega, by simp; omega⟩⟩

/-- The error of an instruction: 1: no operation, 3: an operand. -/
def insErr (c : CodeD) (x : InstrD) : Int :=
  if opIs x.op = false then 1 else if opnd c (opK0 x.op).toNat x.a && opnd c (opK1 x.op).toNat x.b && opnd c (opK2 x.op).toNat x.c then 0 else 3
def insFb (c : CodeD) : Int := idxOf (fun x => insErr c x != 0) c.instrs
def chkAt (c : CodeD) (large : Bool) : Int := if large then -1 else if tabErr c ≠ 0 then tabAt c else insFb c
def chkErr (c : CodeD) (large : Bool) : Int := if large then 2 else if tabErr c ≠ 0 then tabErr c else match c.instrs.find? (fun x => insErr c x != 0) with | some x => insErr c x | none => 0

theorem RInv.below {N : Nat} {w0 w wx : World} {L : List RuleV} (H : RInv N w0 w L) (hb : Below w.heap.size w wx) : RInv N w0 wx L := by
  have hlt := (Array.getElem?_eq_some_iff.1 H.m).1
  refine { b := ?_, m := (hb.block N hlt).trans H.m, o := fun r hr => ?_ }
  · exact H.b.trans (hb.mono (Nat.le_of_lt hlt))
  · have := H.o r hr
    cases r with
    | lit f => trivial
    | btw b lo hi =>
      obtain ⟨h0, h1, h2⟩ := this
      exact ⟨h0, (hb.cell (p := ⟨b, 0, none⟩) (World.block_lt_of_cell? w _ h1)).trans h1, (hb.cell (p := ⟨b + 1, 0, none⟩) (World.block_lt_of_cell? w _ h2)).trans h2⟩
/-- A code's box: block N holds its seven headers. -/
structure BInv (N : Nat) (h : CodeH) (w wr : World) : Prop where
  b : Below N w wr
  z : N + 1 ≤ wr.heap.size
  c0 : wr.cell? ⟨N, 0, none⟩ = some (.slice h.i.a h.i.n h.i.c)
  c1 : wr.cell? ⟨N, 1, none⟩ = some (.slice h.p.a h.p.n h.p.c)
  c2 : wr.cell? ⟨N, 2, none⟩ = some (.slice h.t.a h.t.n h.t.c)
  c3 : wr.cell? ⟨N, 3, none⟩ = some (.slice h.s.a h.s.n h.s.c)
  c4 : wr.cell? ⟨N, 4, none⟩ = some (.slice h.g.a h.g.n h.g.c)
  c5 : wr.cell? ⟨N, 5, none⟩ = some (.slice h.r.a h.r.n h.r.c)
  c6 : wr.cell? ⟨N, 6, none⟩ = some (.slice h.o.a h.o.n h.o.c)
theorem BInv.below {N : Nat} {h : CodeH} {w wr wx : World} (H : BInv N h w wr) (hb : Below wr.heap.size wr wx) : BInv N h w wx := by
  have hz := H.z
  have hN : N < wr.heap.size := by omega
  exact
  { b := H.b.trans (hb.mono (by omega)), z := Nat.le_trans hz hb.size
    c0 := (hb.cell (p := ⟨N, 0, none⟩) hN).trans H.c0, c1 := (hb.cell (p := ⟨N, 1, none⟩) hN).trans H.c1, c2 := (hb.cell (p := ⟨N, 2, none⟩) hN).trans H.c2
    c3 := (hb.cell (p := ⟨N, 3, none⟩) hN).trans H.c3, c4 := (hb.cell (p := ⟨N, 4, none⟩) hN).trans H.c4, c5 := (hb.cell (p := ⟨N, 5, none⟩) hN).trans H.c5
    c6 := (hb.cell (p := ⟨N, 6, none⟩) hN).trans H.c6 }
theorem BInv.start (h : CodeH) (w : World) (t : TypeId) : BInv w.heap.size h w (w.alloc (.cells #[.slice h.i.a h.i.n h.i.c, .slice h.p.a h.p.n h.p.c, .slice h.t.a h.t.n h.t.c, .slice h.s.a h.s.n h.s.c, .slice h.g.a h.g.n h.g.c, .slice h.r.a h.r.n h.r.c, .slice h.o.a h.o.n h.o.c] t)) := by
  have hn : ∀ (cs : Array Value) i, (w.alloc (.cells cs t)).cell? ⟨w.heap.size, i, none⟩ = cs[i]? := fun cs i => cell_of_row _ w.heap.size _ _ t (0, 0) (heap_alloc_new w _)
  refine { b := (Below.refl w.heap.size w).alloc (Nat.le_refl _) _, z := by simp, c0 := ?_, c1 := ?_, c2 := ?_, c3 := ?_, c4 := ?_, c5 := ?_, c6 := ?_ }
  all_goals (rw [hn]; rfl)
theorem CodeAt.more {w : World} {B B' : Nat} {h : CodeH} {c : CodeD} (H : CodeAt w B h c) (hB : B ≤ B') : CodeAt w B' h c :=
  { i := H.i.more hB, p := H.p.more hB, t := H.t.more hB, g := H.g.more hB, r := H.r.more hB, o := H.o.more hB
    s := by
      obtain ⟨hs, h1, h2, h3⟩ := H.s
      exact ⟨hs, h1.more hB, h2, fun k x l hx hl => ⟨(h3 k x l hx hl).1.more hB, (h3 k x l hx hl).2⟩⟩
    ni := H.ni, np := H.np, nt := H.nt, ns := H.ns, ng := H.ng, nr := H.nr, no := H.no, zs := H.zs, wr := H.wr }
theorem CodeAt.at {w wr : World} {h : CodeH} {c : CodeD} (H : CodeAt w w.heap.size h c) (hb : Below w.heap.size w wr) : CodeAt wr wr.heap.size h c := (H.below hb).more hb.size
/-- What the loop of Check carries on. -/
structure CInv (N M R : Nat) (h : CodeH) (c : CodeD) (w w0 wr : World) (L : List RuleV) : Prop where
  x : BInv N h w wr
  f : wr.heap[M]? = some (fm 53)
  r : RInv R w0 wr L
theorem CInv.below {N M R : Nat} {h : CodeH} {c : CodeD} {w w0 wr wx : World} {L : List RuleV} (H : CInv N M R h c w w0 wr L) (hb : Below wr.heap.size wr wx) : CInv N M R h c w w0 wx L :=
  { x := H.x.below hb, f := (hb.block M (Array.getElem?_eq_some_iff.1 H.f).1).trans H.f, r := H.r.below hb }
theorem CInv.alloc {N M R : Nat} {h : CodeH} {c : CodeD} {w w0 wr : World} {L : List RuleV} (H : CInv N M R h c w w0 wr L) (o : Obj) : CInv N M R h c w w0 (wr.alloc o) L := H.below ((Below.refl _ _).alloc (Nat.le_refl _) o)
/-- What the inner loop of Check carries on: the format's cells in block F. -/
structure IInv (N M R F : Nat) (h : CodeH) (c : CodeD) (w w0 wr : World) (L : List RuleV) (n : Int) : Prop where
  c : CInv N M R h c w w0 wr L
  k0 : wr.cell? ⟨F, 1, none⟩ = some (.int .i64 (opK0 n))
  k1 : wr.cell? ⟨F, 2, none⟩ = some (.int .i64 (opK1 n))
  k2 : wr.cell? ⟨F, 3, none⟩ = some (.int .i64 (opK2 n))
theorem IInv.below {N M R F : Nat} {h : CodeH} {c : CodeD} {w w0 wr wx : World} {L : List RuleV} {n : Int} (H : IInv N M R F h c w w0 wr L n) (hb : Below wr.heap.size wr wx) : IInv N M R F h c w w0 wx L n :=
  { c := H.c.below hb
    k0 := (hb.cell (p := ⟨F, 1, none⟩) (World.block_lt_of_cell? wr _ H.k0)).trans H.k0
    k1 := (hb.cell (p := ⟨F, 2, none⟩) (World.block_lt_of_cell? wr _ H.k1)).trans H.k1
    k2 := (hb.cell (p := ⟨F, 3, none⟩) (World.block_lt_of_cell? wr _ H.k2)).trans H.k2 }
theorem IInv.drew {N M R F : Nat} {h : CodeH} {c : CodeD} {w w0 wr : World} {L : List RuleV} {n : Int} (H : IInv N M R F h c w w0 wr L n) : IInv N M R F h c w w0 wr.drew L n := H.below (Below.refl _ _).drew
theorem IInv.start {N M R : Nat} {h : CodeH} {c : CodeD} {w w0 wr : World} {L : List RuleV} (H : CInv N M R h c w w0 wr L) (n : Int) (s : ByteArray) :
    IInv N M R wr.heap.size h c w w0 (wr.alloc (.cells #[.string s, .int .i64 (opK0 n), .int .i64 (opK1 n), .int .i64 (opK2 n)] 85)) L n := by
  have hn : ∀ i, (wr.alloc (.cells #[.string s, .int .i64 (opK0 n), .int .i64 (opK1 n), .int .i64 (opK2 n)] 85)).cell? ⟨wr.heap.size, i, none⟩ = (#[.string s, .int .i64 (opK0 n), .int .i64 (opK1 n), .int .i64 (opK2 n)] : Array Value)[i]? := fun i => cell_of_row _ wr.heap.size _ _ 85 (0, 0) (heap_alloc_new wr _)
  exact { c := H.alloc _, k0 := by rw [hn]; rfl, k1 := by rw [hn]; rfl, k2 := by rw [hn]; rfl }
theorem insErr_bad {c : CodeD} {x : InstrD} (h : opIs x.op = false) : insErr c x = 1 := by unfold insErr; rw [if_pos h]
theorem insErr_op {c : CodeD} {x : InstrD} (h : opIs x.op = true) (h1 : (opnd c (opK0 x.op).toNat x.a && opnd c (opK1 x.op).toNat x.b && opnd c (opK2 x.op).toNat x.c) = false) : insErr c x = 3 := by
  unfold insErr; rw [if_neg (by rw [h]; simp), if_neg (by rw [h1]; simp)]
theorem insErr_ok {c : CodeD} {x : InstrD} (h : opIs x.op = true) (h1 : (opnd c (opK0 x.op).toNat x.a && opnd c (opK1 x.op).toNat x.b && opnd c (opK2 x.op).toNat x.c) = true) : insErr c x = 0 := by
  unfold insErr; rw [if_neg (by rw [h]; simp), if_pos h1]
theorem chk_hit {c : CodeD} {k : Nat} {x : InstrD} {e : Int} (ht : tabErr c = 0) (hx : c.instrs[k]? = some x) (he : insErr c x = e) (h0 : e ≠ 0) (hno : ∀ (j : Nat) (y : InstrD), j < k → c.instrs[j]? = some y → insErr c y = 0) :
    chkErr c false = e ∧ chkAt c false = k := by
  constructor
  · unfold chkErr
    rw [if_neg (by simp), if_neg (by simp [ht])]
    have : c.instrs.find? (fun x => insErr c x != 0) = some x := by
      rw [List.find?_eq_some_iff_getElem]
      obtain ⟨hk, hg⟩ := List.getElem?_eq_some_iff.1 hx
      refine ⟨by simp [he, h0], k, hk, hg, fun j hj => ?_⟩
      rw [hno j _ hj (List.getElem?_eq_getElem (by omega))]
      simp
    rw [this]
    exact he
  · unfold chkAt insFb
    rw [if_neg (by simp), if_neg (by simp [ht])]
    exact idxOf_hit hx (by simp [he, h0]) (fun j y hj hy => by simp [hno j y hj hy])
theorem chk_none {c : CodeD} (ht : tabErr c = 0) (hno : ∀ (j : Nat) (y : InstrD), c.instrs[j]? = some y → insErr c y = 0) : chkErr c false = 0 ∧ chkAt c false = -1 := by
  constructor
  · unfold chkErr
    rw [if_neg (by simp), if_neg (by simp [ht])]
    have : c.instrs.find? (fun x => insErr c x != 0) = none := by
      rw [List.find?_eq_none]
      intro x hx
      obtain ⟨k, hk⟩ := List.mem_iff_getElem?.1 hx
      simp [hno k x hk]
    rw [this]
  · unfold chkAt insFb
    rw [if_neg (by simp), if_neg (by simp [ht])]
    exact idxOf_miss (fun j y hy => by simp [hno j y hy])
theorem field88 (f : FuncId) (caps : Array Value) (w : World) : (Instr.field 88 (.agg #[.func (.func f) #[] caps]) 0).run Tryz.prog w = .ok (.func (.func f) #[] caps) w := by kernel_rfl
theorem CInv.drew {N M R : Nat} {h : CodeH} {c : CodeD} {w w0 wr : World} {L : List RuleV} (H : CInv N M R h c w w0 wr L) : CInv N M R h c w w0 wr.drew L := H.below (Below.refl _ _).drew

set_option maxHeartbeats 16000000 in
theorem Check_any (h : CodeH) (c : CodeD) (w : World) (H : CodeAt w w.heap.size h c) : Calls Tryz.prog 14 #[.agg #[.slice h.i.a h.i.n h.i.c, .slice h.p.a h.p.n h.p.c, .slice h.t.a h.t.n h.t.c, .slice h.s.a h.s.n h.s.c, .slice h.g.a h.g.n h.g.c, .slice h.r.a h.r.n h.r.c, .slice h.o.a h.o.n h.o.c]] w
    fun e w' => e = .returned (.tuple #[.int .i64 (chkErr c (largeB h)), .int .i64 (chkAt c (largeB h))]) ∧ Below w.heap.size w w' := by
  have HC := Lib.hid H
  clear H
  have B0 := Lib.hid (BInv.start h w 30)
  cases hl : largeB h with
  | true =>
    go_enter Tryz.func14, Tryz.ntmps14
    go_wp2_with (go_at_call 42; refine (large_any h _).mono ?_; rintro e w1 ⟨rfl, hb1⟩; have HB1 := Lib.hid hb1; clear hb1)
    go_ret2
    exact ⟨rfl, (B0.out.below HB1.out).b⟩
  | false =>
    have L0 : Hid (largeB h = false) := Lib.hid hl
    cases ht : decide (tabErr c = 0) with
    | false =>
      have htb : (tabErr c != 0) = true := by simpa using ht
      have htn : tabErr c ≠ 0 := by simpa using ht
      have HTN := Lib.hid htn
      clear htn ht
      go_enter Tryz.func14, Tryz.ntmps14
      go_wp2_with (first
        | (go_at_call 42; refine (large_any h _).mono ?_; rintro e w1 ⟨rfl, hb1⟩; have B1 := Lib.hid (B0.out.below hb1); clear hb1; have x0 := B1.out.c0; have x1 := B1.out.c1; have x2 := B1.out.c2; have x3 := B1.out.c3; have x4 := B1.out.c4; have x5 := B1.out.c5; have x6 := B1.out.c6)
        | (go_at_call 43; refine (tables_any h c _ (HC.out.at B1.out.b)).mono ?_; rintro e w2 ⟨rfl, hb2⟩; have B2 := Lib.hid (B1.out.below hb2); clear hb2 x0 x1 x2 x3 x4 x5 x6))
      go_ret2
      exact ⟨by unfold chkErr chkAt; rw [if_pos HTN.out, if_pos HTN.out]; rfl, B2.out.b⟩
    | true =>
      have htb : (tabErr c != 0) = false := by simpa using ht
      have htn : tabErr c = 0 := by simpa using ht
      have HTN := Lib.hid htn
      clear htn ht
      go_enter Tryz.func14, Tryz.ntmps14
      go_wp2_with (first
        | (go_at_call 42; refine (large_any h _).mono ?_; rintro e w1 ⟨rfl, hb1⟩; have B1 := Lib.hid (B0.out.below hb1); clear hb1; have x0 := B1.out.c0; have x1 := B1.out.c1; have x2 := B1.out.c2; have x3 := B1.out.c3; have x4 := B1.out.c4; have x5 := B1.out.c5; have x6 := B1.out.c6)
        | (go_at_call 43; refine (tables_any h c _ (HC.out.at B1.out.b)).mono ?_; rintro e w2 ⟨rfl, hb2⟩; have B2 := Lib.hid (B1.out.below hb2); clear hb2 x0 x1 x2 x3 x4 x5 x6)
        | (go_at_call 44; refine (FmtIns.formats_any _).mono ?_; rintro e w3 ⟨rfl, hw3⟩; have B3 := Lib.hid (B2.out.below (hw3 ▸ (Below.refl _ _).alloc (Nat.le_refl _) (fm 53))); have F3 : Hid (w3.heap[w2.heap.size]? = some (fm 53)) := Lib.hid (hw3 ▸ heap_alloc_new w2 (fm 53)); clear hw3)
        | (go_at_call 45; refine (rules_any _).mono ?_; rintro e w4 ⟨rfl, b0, b1, b3, b5, b6, b7, b8, b18, b19, b20, b22, b23, b24, hr4⟩; have C4 : Hid (CInv w.heap.size w2.heap.size w3.heap.size h c w w3 w4 (ruleList b0 b1 b3 b5 b6 b7 b8 b18 b19 b20 b22 b23 b24)) := Lib.hid (CInv.mk (B3.out.below hr4.b) ((hr4.b.block w2.heap.size (Array.getElem?_eq_some_iff.1 F3.out).1).trans F3.out) hr4); clear hr4; have x0 := C4.out.x.c0))
      clear x0
      go_loopw [30] (fun i wr => ∃ k : Nat, k ≤ h.i.n ∧ i = .int .i64 k ∧ CInv w.heap.size w2.heap.size w3.heap.size h c w w3 wr (ruleList b0 b1 b3 b5 b6 b7 b8 b18 b19 b20 b22 b23 b24) ∧ ∀ (j : Nat) (y : InstrD), j < k → c.instrs[j]? = some y → insErr c y = 0) (fun i _ => h.i.n - (intOf i).toNat)
      case atStart => exact ⟨0, by omega, rfl, C4.out, fun j y hj => by omega⟩
      case round =>
        obtain ⟨k, hk, rfl, hT, hno⟩ := hrel
        have HT := Lib.hid hT
        have HNO := Lib.hid hno
        clear hno hT C4 F3 B3 B2 B1
        by_cases hlt : k < h.i.n
        · have hn : h.i.n ≤ 140737488351232 := HC.out.ni.2
          obtain ⟨ad, x, had, hx, hab, hc⟩ := Reads.elem (f := InstrD.cells) (fun _ => rfl) (HC.out.i.below HT.out.x.b) HC.out.ni.1 hlt
          have c0 := hc 0 _ (by omega) rfl
          have c1 := hc 1 _ (by omega) rfl
          have c2 := hc 2 _ (by omega) rfl
          have c3 := hc 3 _ (by omega) rfl
          rw [show (ad.add (k * 4)).add 0 = ad.add (k * 4) from rfl] at c0
          rw [show (ad.add (k * 4)).add 1 = { block := (ad.add (k * 4)).block, off := (ad.add (k * 4)).off + 1 } from rfl] at c1
          rw [show (ad.add (k * 4)).add 2 = { block := (ad.add (k * 4)).block, off := (ad.add (k * 4)).off + 2 } from rfl] at c2
          rw [show (ad.add (k * 4)).add 3 = { block := (ad.add (k * 4)).block, off := (ad.add (k * 4)).off + 3 } from rfl] at c3
          rw [had]
          have HX := Lib.hid hx
          clear hc hx had hab
          have hlk := fun o => look_fmt (w := wr.alloc o) (b := w2.heap.size) (HT.out.alloc o).f x.op
          cases hop : opIs x.op with
          | false =>
            rw [hop] at hlk
            have HOP := Lib.hid hop
            clear hop
            go_wp2
            have hh := chk_hit HTN.out HX.out (insErr_bad HOP.out) (by omega) HNO.out
            go_ret2
            exact ⟨by rw [hh.1, hh.2]; rfl, ((HT.out.alloc _).alloc _).x.b⟩
          | true =>
            rw [hop] at hlk
            have HOP := Lib.hid hop
            clear hop
            go_wp2
            have I0 := IInv.start (HT.out.alloc (.cells #[.int .i64 x.op, .int .i64 x.a, .int .i64 x.b, .int .i64 x.c] 52)) x.op (opName x.op)
            rw [World.size_alloc] at I0
            have HI := Lib.hid I0
            clear I0 hlk c0 c1 c2 c3
            go_loopw [52] (fun i wi => ∃ m : Nat, m ≤ 3 ∧ i = .int .i64 m ∧ IInv w.heap.size w2.heap.size w3.heap.size (wr.heap.size + 1) h c w w3 wi (ruleList b0 b1 b3 b5 b6 b7 b8 b18 b19 b20 b22 b23 b24) x.op ∧ (0 < m → opnd c (opK0 x.op).toNat x.a = true) ∧ (1 < m → opnd c (opK1 x.op).toNat x.b = true) ∧ (2 < m → opnd c (opK2 x.op).toNat x.c = true)) (fun i _ => 3 - (intOf i).toNat)
            case atStart => exact ⟨0, by omega, rfl, HI.out, by omega, by omega, by omega⟩
            case round =>
              obtain ⟨m, hm, rfl, hii, g0, g1, g2⟩ := hrel
              have HI := Lib.hid hii
              have G0 := Lib.hid g0
              have G1 := Lib.hid g1
              have G2 := Lib.hid g2
              clear g0 g1 g2 hii
              have ix0 := index3_0 x.a x.b x.c
              have ix1 := index3_1 x.a x.b x.c
              have ix2 := index3_2 x.a x.b x.c
              have x0 := HI.out.c.x.c0
              have x1 := HI.out.c.x.c1
              have x2 := HI.out.c.x.c2
              have x3 := HI.out.c.x.c3
              have x4 := HI.out.c.x.c4
              have x5 := HI.out.c.x.c5
              have x6 := HI.out.c.x.c6
              match m, hm with
              | 0, _ =>
                obtain ⟨kq, hkq, hk0⟩ := (opK_lt x.op).1
                obtain ⟨f, caps, r, hr, hv, hen, hcall⟩ := rule_call b0 b1 b3 b5 b6 b7 b8 b18 b19 b20 b22 b23 b24 kq hkq
                have hl : (Instr.lookup 81 (.map (some w3.heap.size)) (.int .i64 (opK0 x.op)) false).run Tryz.prog wr.drew = .ok (.agg #[.func (.func f) #[] caps]) wr.drew := by rw [hk0, ← hv]; exact look_rule HI.out.drew.c.r hr
                have hen' := fun args w => hen args w
                have hrk : r.ok w3.heap.size wr.drew := HI.out.drew.c.r.o r (List.mem_of_getElem? hr)
                have HCALL := Lib.hid (hcall h c x.a w3.heap.size wr.drew hrk (HC.out.at HI.out.drew.c.x.b))
                have HK := Lib.hid hk0
                clear hcall hk0 hv hr hen hrk
                have y0 := HI.out.k0
                have hfd := field88 f caps
                cases ho : opnd c kq x.a with
                | true =>
                  rw [ho] at HCALL
                  have HO := Lib.hid ho
                  clear ho
                  go_wp2
                  refine wp_region_still_tail 9 (by kernel_rfl) (by kernel_rfl) ?_
                  simp only [List.take_succ_cons, List.take_zero, List.drop_succ_cons, List.drop_zero]
                  change wpStill _ _ wr.drew _ _ _
                  repeat still_step
                  refine wpStill_nil ?_
                  change wpList _ _ _ _ _ wr.drew
                  go_wp2_with (refine HCALL.out.mono ?_; rintro e w5 ⟨rfl, hb5⟩; have I5 := Lib.hid (HI.out.drew.below hb5); clear hb5)
                  go_roundw
                  case rel => exact ⟨1, by omega, by go_num, I5.out, fun _ => by rw [HK.out]; exact HO.out, by omega, by omega⟩
                  case measure => simp [intOf]
                | false =>
                  rw [ho] at HCALL
                  have HO := Lib.hid ho
                  clear ho
                  go_wp2
                  refine wp_region_still_tail 9 (by kernel_rfl) (by kernel_rfl) ?_
                  simp only [List.take_succ_cons, List.take_zero, List.drop_succ_cons, List.drop_zero]
                  change wpStill _ _ wr.drew _ _ _
                  repeat still_step
                  refine wpStill_nil ?_
                  change wpList _ _ _ _ _ wr.drew
                  go_wp2_with (refine HCALL.out.mono ?_; rintro e w5 ⟨rfl, hb5⟩; have I5 := Lib.hid (HI.out.drew.below hb5); clear hb5)
                  have hh := chk_hit HTN.out HX.out (insErr_op HOP.out (by rw [HK.out]; simp [HO.out])) (by omega) HNO.out
                  go_ret2
                  exact ⟨by rw [hh.1, hh.2]; rfl, I5.out.c.x.b⟩
              | 1, _ =>
                obtain ⟨kq, hkq, hk0⟩ := (opK_lt x.op).2.1
                obtain ⟨f, caps, r, hr, hv, hen, hcall⟩ := rule_call b0 b1 b3 b5 b6 b7 b8 b18 b19 b20 b22 b23 b24 kq hkq
                have hl : (Instr.lookup 81 (.map (some w3.heap.size)) (.int .i64 (opK1 x.op)) false).run Tryz.prog wr.drew = .ok (.agg #[.func (.func f) #[] caps]) wr.drew := by rw [hk0, ← hv]; exact look_rule HI.out.drew.c.r hr
                have hen' := fun args w => hen args w
                have hrk : r.ok w3.heap.size wr.drew := HI.out.drew.c.r.o r (List.mem_of_getElem? hr)
                have HCALL := Lib.hid (hcall h c x.b w3.heap.size wr.drew hrk (HC.out.at HI.out.drew.c.x.b))
                have HK := Lib.hid hk0
                clear hcall hk0 hv hr hen hrk
                have y0 := HI.out.k1
                have hfd := field88 f caps
                cases ho : opnd c kq x.b with
                | true =>
                  rw [ho] at HCALL
                  have HO := Lib.hid ho
                  clear ho
                  go_wp2
                  refine wp_region_still_tail 9 (by kernel_rfl) (by kernel_rfl) ?_
                  simp only [List.take_succ_cons, List.take_zero, List.drop_succ_cons, List.drop_zero]
                  change wpStill _ _ wr.drew _ _ _
                  repeat still_step
                  refine wpStill_nil ?_
                  change wpList _ _ _ _ _ wr.drew
                  go_wp2_with (refine HCALL.out.mono ?_; rintro e w5 ⟨rfl, hb5⟩; have I5 := Lib.hid (HI.out.drew.below hb5); clear hb5)
                  go_roundw
                  case rel => exact ⟨2, by omega, by go_num, I5.out, fun _ => G0.out (by omega), fun _ => by rw [HK.out]; exact HO.out, by omega⟩
                  case measure => simp [intOf]
                | false =>
                  rw [ho] at HCALL
                  have HO := Lib.hid ho
                  clear ho
                  go_wp2
                  refine wp_region_still_tail 9 (by kernel_rfl) (by kernel_rfl) ?_
                  simp only [List.take_succ_cons, List.take_zero, List.drop_succ_cons, List.drop_zero]
                  change wpStill _ _ wr.drew _ _ _
                  repeat still_step
                  refine wpStill_nil ?_
                  change wpList _ _ _ _ _ wr.drew
                  go_wp2_with (refine HCALL.out.mono ?_; rintro e w5 ⟨rfl, hb5⟩; have I5 := Lib.hid (HI.out.drew.below hb5); clear hb5)
                  have hh := chk_hit HTN.out HX.out (insErr_op HOP.out (by rw [HK.out]; simp [HO.out])) (by omega) HNO.out
                  go_ret2
                  exact ⟨by rw [hh.1, hh.2]; rfl, I5.out.c.x.b⟩
              | 2, _ =>
                obtain ⟨kq, hkq, hk0⟩ := (opK_lt x.op).2.2
                obtain ⟨f, caps, r, hr, hv, hen, hcall⟩ := rule_call b0 b1 b3 b5 b6 b7 b8 b18 b19 b20 b22 b23 b24 kq hkq
                have hl : (Instr.lookup 81 (.map (some w3.heap.size)) (.int .i64 (opK2 x.op)) false).run Tryz.prog wr.drew = .ok (.agg #[.func (.func f) #[] caps]) wr.drew := by rw [hk0, ← hv]; exact look_rule HI.out.drew.c.r hr
                have hen' := fun args w => hen args w
                have hrk : r.ok w3.heap.size wr.drew := HI.out.drew.c.r.o r (List.mem_of_getElem? hr)
                have HCALL := Lib.hid (hcall h c x.c w3.heap.size wr.drew hrk (HC.out.at HI.out.drew.c.x.b))
                have HK := Lib.hid hk0
                clear hcall hk0 hv hr hen hrk
                have y0 := HI.out.k2
                have hfd := field88 f caps
                cases ho : opnd c kq x.c with
                | true =>
                  rw [ho] at HCALL
                  have HO := Lib.hid ho
                  clear ho
                  go_wp2
                  refine wp_region_still_tail 9 (by kernel_rfl) (by kernel_rfl) ?_
                  simp only [List.take_succ_cons, List.take_zero, List.drop_succ_cons, List.drop_zero]
                  change wpStill _ _ wr.drew _ _ _
                  repeat still_step
                  refine wpStill_nil ?_
                  change wpList _ _ _ _ _ wr.drew
                  go_wp2_with (refine HCALL.out.mono ?_; rintro e w5 ⟨rfl, hb5⟩; have I5 := Lib.hid (HI.out.drew.below hb5); clear hb5)
                  go_roundw
                  case rel => exact ⟨3, by omega, by go_num, I5.out, fun _ => G0.out (by omega), fun _ => G1.out (by omega), fun _ => by rw [HK.out]; exact HO.out⟩
                  case measure => simp [intOf]
                | false =>
                  rw [ho] at HCALL
                  have HO := Lib.hid ho
                  clear ho
                  go_wp2
                  refine wp_region_still_tail 9 (by kernel_rfl) (by kernel_rfl) ?_
                  simp only [List.take_succ_cons, List.take_zero, List.drop_succ_cons, List.drop_zero]
                  change wpStill _ _ wr.drew _ _ _
                  repeat still_step
                  refine wpStill_nil ?_
                  change wpList _ _ _ _ _ wr.drew
                  go_wp2_with (refine HCALL.out.mono ?_; rintro e w5 ⟨rfl, hb5⟩; have I5 := Lib.hid (HI.out.drew.below hb5); clear hb5)
                  have hh := chk_hit HTN.out HX.out (insErr_op HOP.out (by rw [HK.out]; simp [HO.out])) (by omega) HNO.out
                  go_ret2
                  exact ⟨by rw [hh.1, hh.2]; rfl, I5.out.c.x.b⟩
              | 3, _ =>
                have hgood := insErr_ok (c := c) HOP.out (by rw [G0.out (by omega), G1.out (by omega), G2.out (by omega)]; rfl)
                have HG := Lib.hid hgood
                clear hgood
                go_wp2
                go_roundw
                case rel => exact ⟨k + 1, by omega, by go_num, HI.out.c, fun j y hj hy => by
                  rcases Nat.lt_succ_iff_lt_or_eq.1 hj with h | rfl
                  · exact HNO.out j y h hy
                  · rw [HX.out] at hy; cases hy; exact HG.out⟩
                case measure => simp [intOf]; omega
        · have hh := chk_none HTN.out (fun j y hy => HNO.out j y (by have := (List.getElem?_eq_some_iff.1 hy).1; have := HC.out.ni.1; omega) hy)
          have HH := Lib.hid hh
          clear hh
          go_wp2
          go_ret2
          exact ⟨by rw [HH.out.1, HH.out.2]; rfl, HT.out.x.b⟩
end Go.Proofs.YtmfnholhhakgaaaGreatDoor
