/- Print: lines collected, joined; its contract. -/
import Derived.Test.YtmfnholhhakgaaaGreatDoorMhm
import Derived.RangeFuncGives
import Derived.RangeFuncLeaves
import Derived.RangeFuncOwn
import Derived.Maps.AppendAt
import Derived.Shelf.Abstract
import Derived.OwnWalkIn
import Derived.TacticsInMore
import Derived.Test.YtmfnholhhakgaaaGreatDoorMhn
section
namespace Go.Proofs.YtmfnholhhakgaaaGreatDoor
open Go Go.Proofs Go.RowKit Go.Sort Go.Shelf

def apAssign : Code := (Code.region 2 #[{ dst := some 5, op := Op.assign (Operand.tmp 7), type := 9, pos := "iter.go:51", after := #[], guard := none }] false)
def apBody : Code := (Code.block 1 (Code.region 3 #[{ dst := some 8, op := Op.load 26 (Operand.tmp 2), type := 26, pos := "iter.go:52", after := #[], guard := none }, { dst := some 9, op := Op.move (Operand.tmp 5), type := 9, pos := "iter.go:52", after := #[], guard := none }, { dst := some 10, op := Op.buildSlice 26 1 #[(0, Operand.tmp 9)], type := 26, pos := "iter.go:52", after := #[{ on := 1, ground := Ground.data }], guard := none }, { dst := some 11, op := Op.call { callee := Callee.builtin Builtin.append, args := #[Operand.tmp 8, Operand.tmp 10], argTypes := #[26, 26] }, type := 26, pos := "iter.go:52", after := #[{ on := 0, ground := Ground.data }, { on := 2, ground := Ground.data }], guard := none }, { dst := none, op := Op.store 26 (Operand.tmp 2) (Operand.tmp 11), type := 0, pos := "iter.go:52", after := #[{ on := 3, ground := Ground.data }, { on := 3, ground := Ground.chain }, { on := 0, ground := Ground.phase }, { on := 1, ground := Ground.phase }, { on := 2, ground := Ground.phase }, { on := 3, ground := Ground.phase }], guard := none }] false))
/-- The loop's record: the temporaries as they stood at the entering: the slice boxed in block Bs; sv: the iterator's value. -/
def apRec (fn : FuncId) (sv : Value) (Bs D : Nat) (st : LoopState) (pend : Option Code) : Loop :=
  { state := st, pending := pend, fn, tmps := #[.slice none 0 0, sv, .pointer (some ⟨Bs, 0, none⟩), undef, .slice none 0 0, undef, sv, undef, undef, undef, undef, undef, undef], params := #[7], assign := apAssign, body := apBody, defers := D }

/-- Between two rounds: the box holds a slice that owns, in a block of the call's own, what has come so far; block p, which is the iterator's, is none of the loop's. -/
structure ApAt (w0 : World) (fn : FuncId) (sv : Value) (Bs l D p : Nat) (ss : List ByteArray) (W : World) : Prop where
  box : ∃ v, W.heap[Bs]? = some (.cells #[v] 26 (0, 0)) ∧ W.ownsRow (p + 1) 9 1 v ss.length (strCells ss)
  L : W.heap[l]? = some (.loop (apRec fn sv Bs D .ready none))
  K : W.heap[D]? = some (.deferred (some []))
  below : Below w0.heap.size w0 W
  ne : p ≠ Bs ∧ p ≠ l ∧ p ≠ D
  ge : w0.heap.size ≤ p

theorem ap_grownBy_putObj (W : World) (l : Nat) (o : Obj) : W.grownBy (W.putObj l o) (some l) :=
  ⟨rfl, rfl, rfl, by simp, fun k _ hk => World.putObj_heap_other (fun e => hk (by rw [e]))⟩
theorem ap_grownBy_setCell0 (W : World) (b : Nat) (v : Value) : W.grownBy (W.setCell ⟨b, 0, none⟩ v) (some b) :=
  ⟨rfl, rfl, rfl, (KeepsWalks.setCell W _ v).size, fun k _ hk => Below.heap_setCell _ _ _ k (fun e => hk (by rw [e]))⟩
theorem ap_ownsRow_ne {W : World} {base : Nat} {e : TypeId} {size : Nat} {v : Value} {k : Nat} {xs : List Value} (h : W.ownsRow base e size v k xs) {j : Nat} {o : Obj} (hj : W.heap[j]? = some o) (hno : ∀ cur, o ≠ .cells cur e (0, 0)) :
    v.ownBlock = none ∨ v.ownBlock ≠ some j := by
  rcases h.2 with ⟨rfl, _⟩ | ⟨g, cap, cur, rfl, _, hgb, _⟩
  · exact .inl rfl
  · refine .inr fun e' => ?_
    have : g = j := by simpa [Value.ownBlock] using e'
    subst this; rw [hgb] at hj; cases hj; exact hno cur rfl
theorem ap_cell_of_box {W : World} {B : Nat} {v : Value} {t : TypeId} (h : W.heap[B]? = some (.cells #[v] t (0, 0))) : W.cell? ⟨B, 0, none⟩ = some v ∧ W.frozen? ⟨B, 0, none⟩ = false := by
  constructor <;> simp [World.cell?, World.frozen?, h]
theorem ap_heap_setCell_box {W : World} {B : Nat} {v : Value} {t : TypeId} (v' : Value) (h : W.heap[B]? = some (.cells #[v] t (0, 0))) : (W.setCell ⟨B, 0, none⟩ v').heap[B]? = some (.cells #[v'] t (0, 0)) := by
  obtain ⟨hlt, hk⟩ := Array.getElem?_eq_some_iff.1 h
  show (W.heap.modify B _)[B]? = _
  rw [Array.getElem?_eq_getElem (by rw [Array.size_modify]; exact hlt), Array.getElem_modify_self, hk]
  rfl
theorem info9s : (Tryz.prog.info? 9).map (fun i => (i.zero, i.size, i.bytes)) = some (some (.string ⟨#[]⟩), 1, 16) := by kernel_rfl

set_option maxRecDepth 100000 in
set_option maxHeartbeats 2000000 in
theorem apYield (F : Fence) (m : Nat) (w0 : World) (fn : FuncId) (hfn : F.fn fn) (sv : Value) (Bs l D p : Nat) (hBl : Bs ≠ l) (hDl : D ≠ l) (hDB : D ≠ Bs) (h0B : w0.heap.size ≤ Bs) (h0l : w0.heap.size ≤ l)
    (ss : List ByteArray) (x : ByteArray) (W : World) (h : ApAt w0 fn sv Bs l D p ss W) (hp : p < W.heap.size) (hlen : ss.length ≤ 1000000) :
    YieldAt F m Tryz.prog l #[.string x] W fun e W' => e = .returned (.bool true) ∧ ApAt w0 fn sv Bs l D p (ss ++ [x]) W' ∧ W'.heap[p]? = W.heap[p]? := by
  obtain ⟨i0, hi, hz0, hz1, hz2⟩ := info_parts info9s
  obtain ⟨v, hv, hrow⟩ := h.box
  have hge := h.ge
  have hvp : v.ownBlock ≠ some p := fun e => by have := (hrow.lt p e).1; omega
  have hpB := h.ne.1
  have hpl := h.ne.2.1
  have hpD := h.ne.2.2
  refine ⟨fn, #[.slice none 0 0, sv, .pointer (some ⟨Bs, 0, none⟩), undef, .slice none 0 0, undef, sv, .string x, undef, undef, undef, undef, undef], apAssign, apBody, by simpa [apRec] using run_yield (P := Tryz.prog) (args := #[.string x]) h.L rfl, roundIn_of_wpIn hfn ?_⟩
  have hl : l < W.heap.size := (Array.getElem?_eq_some_iff.1 h.L).1
  have hbr := run_beginRound (P := Tryz.prog) h.L rfl
  obtain ⟨W2, hW2⟩ : ∃ W2, W.putObj l (.loop { apRec fn sv Bs D .ready none with state := .busy }) = W2 := ⟨_, rfl⟩
  rw [hW2] at hbr
  have hg2 : W.grownBy W2 (some l) := by rw [← hW2]; exact ap_grownBy_putObj _ _ _
  have hv2 : W2.heap[Bs]? = some (.cells #[v] 26 (0, 0)) := by rw [← hW2]; exact (World.putObj_heap_other hBl).trans hv
  have hK2 : W2.heap[D]? = some (.deferred (some [])) := by rw [← hW2]; exact (World.putObj_heap_other hDl).trans h.K
  have hL2 : W2.heap[l]? = some (.loop { apRec fn sv Bs D .ready none with state := .busy }) := by rw [← hW2]; exact World.putObj_heap_same hl
  have hp2 : W2.heap[p]? = W.heap[p]? := by rw [← hW2]; exact World.putObj_heap_other hpl
  have hrow2 : W2.ownsRow (p + 1) 9 1 v ss.length (strCells ss) := hrow.kept hg2 (ap_ownsRow_ne hrow h.L (fun cur e => by cases e))
  have hb2 : Below w0.heap.size w0 W2 := h.below.grown hg2 h.below.size (fun k e => by cases e; exact h0l)
  obtain ⟨hc2, hf2⟩ := ap_cell_of_box hv2
  have hBlt : Bs < W2.heap.size := (Array.getElem?_eq_some_iff.1 hv2).1
  have hl2 : l < W2.heap.size := (Array.getElem?_eq_some_iff.1 hL2).1
  have hDlt : D < W2.heap.size := (Array.getElem?_eq_some_iff.1 hK2).1
  have hplt : p < W2.heap.size := by have := hg2.size; omega
  have ne_of : ∀ {j : Nat} {o : Obj}, W2.heap[j]? = some o → (∀ cur, o ≠ .cells cur 9 (0, 0)) → some j ≠ v.ownBlock := fun hj hno => by
    rcases ap_ownsRow_ne hrow2 hj hno with e | e
    · rw [e]; simp
    · exact fun e' => e e'.symm
  clear hW2
  have HP := Lib.hid hp2
  clear hp2
  unfold apAssign
  gi_wp2_with (rw [Oper.semAt_eq _ _ _ (fun c h => by cases h)]; go_simp; try go_bits)
  unfold apBody
  gi_wp2_with (first
    | (gi_at_builtin; refine wpListIn_append_own _ rfl _ _ 26 rfl (p + 1) 9 i0 (.string ⟨#[]⟩) 1 16 Tryz.underlying26 hi hz0 hz1 hz2 rfl (by decide) _ _ _ rfl (hrow2.alloc _) ⟨W2.heap.size, 0, none⟩ 1 1 [.string x] rfl rfl (cell_one_new _ _ _) (by simp [Value.oneCell']) (by unfold maxLen; omega) (by omega) (by simp; omega) ?_; intro v' w3 hown' hg3 hnil3
       have hv3 : w3.heap[Bs]? = some (.cells #[v] 26 (0, 0)) := (hg3.block Bs (by simp; omega) (ne_of hv2 (fun cur e => by cases e))).trans ((Below.heap_alloc _ _ Bs hBlt).trans hv2)
       have hp3 : w3.heap[p]? = W2.heap[p]? := (hg3.block p (by simp; omega) (Ne.symm hvp)).trans (Below.heap_alloc _ _ p hplt)
       have HP3 := Lib.hid hp3
       clear hp3
       obtain ⟨hc3, hf3⟩ := ap_cell_of_box hv3
       obtain ⟨g', cap', cur', rfl, hbase', hgb', hr1, hr2, hr3, hr4⟩ : ∃ g' cap' cur', v' = .slice (some ⟨g', 0, none⟩) (ss.length + 1) cap' ∧ p + 1 ≤ g' ∧ w3.heap[g']? = some (.cells cur' 9 (0, 0)) ∧ ss.length + 1 ≤ cap' ∧ cap' ≤ maxLen ∧ cur'.size = cap' * 1 ∧ cur'.toList.take ((ss.length + 1) * 1) = strCells ss ++ [.string x] := by
         rcases hown'.2 with ⟨_, h0⟩ | h'
         · exact absurd h0 (by omega)
         · exact h'
       go_frame)
    | (rw [Oper.semAt_eq _ _ _ (fun c h => by cases h)]; go_simp; try go_bits))
  have hg3' : (W2.alloc (.cells #[.string x] 9)).grownBy w3 v.ownBlock := hg3
  have hL3 : w3.heap[l]? = some (.loop { apRec fn sv Bs D .ready none with state := .busy }) := (hg3'.block l (by simp; omega) (ne_of hL2 (fun cur e => by cases e))).trans ((Below.heap_alloc _ _ l hl2).trans hL2)
  have hK3 : w3.heap[D]? = some (.deferred (some [])) := (hg3'.block D (by simp; omega) (ne_of hK2 (fun cur e => by cases e))).trans ((Below.heap_alloc _ _ D hDlt).trans hK2)
  obtain ⟨w4, hw4⟩ : ∃ w4, w3.setCell ⟨Bs, 0, none⟩ (.slice (some ⟨g', 0, none⟩) (ss.length + 1) cap') = w4 := ⟨_, rfl⟩
  rw [hw4]
  have hg4 : w3.grownBy w4 (some Bs) := by rw [← hw4]; exact ap_grownBy_setCell0 _ _ _
  have hv4 : w4.heap[Bs]? = some (.cells #[.slice (some ⟨g', 0, none⟩) (ss.length + 1) cap'] 26 (0, 0)) := by rw [← hw4]; exact ap_heap_setCell_box _ hv3
  have hL4 : w4.heap[l]? = some (.loop { apRec fn sv Bs D .ready none with state := .busy }) := (hg4.block l (Array.getElem?_eq_some_iff.1 hL3).1 (fun e => hBl (by cases e; rfl))).trans hL3
  have hK4 : w4.heap[D]? = some (.deferred (some [])) := (hg4.block D (Array.getElem?_eq_some_iff.1 hK3).1 (fun e => hDB (by cases e; rfl))).trans hK3
  have hrow4 := hown'.kept hg4 (ap_ownsRow_ne hown' hv3 (fun cur e => by cases e))
  have hl4 : l < w4.heap.size := (Array.getElem?_eq_some_iff.1 hL4).1
  have hs3 : W2.heap.size + 1 ≤ w3.heap.size := by have := hg3'.size; simpa using this
  have hp4 : w4.heap[p]? = W.heap[p]? := (hg4.block p (by omega) (fun e => hpB (by cases e; rfl))).trans (HP3.out.trans HP.out)
  have hb3 : Below w0.heap.size w0 w3 := (hb2.alloc hb2.size _).grown hg3' (by have := hb2.size; simp; omega) (fun k e => by have := (hrow2.lt k e).1; omega)
  have hb4 : Below w0.heap.size w0 w4 := hb3.grown hg4 hb3.size (fun k e => by cases e; exact h0B)
  have hne := h.ne
  clear hw4
  refine ⟨_, _, run_endRound none hL4, rfl, ⟨⟨_, (World.putObj_heap_other hBl).trans hv4, ?_⟩, World.putObj_heap_same hl4, (World.putObj_heap_other hDl).trans hK4, hb4.grown (ap_grownBy_putObj _ _ _) hb4.size (fun k e => by cases e; exact h0l), hne, hge⟩, (World.putObj_heap_other hpl).trans (hp4.trans (Array.getElem?_eq_getElem hp))⟩
  have := hrow4.kept (ap_grownBy_putObj w4 l (.loop { { apRec fn sv Bs D .ready none with state := .busy } with state := if (none : Option Code).isNone then .ready else .done, pending := none })) (ap_ownsRow_ne hrow4 hL4 (fun cur e => by cases e))
  simpa [strCells] using this

/-- What an iterator owes that yields just the strings ll, and keeps them in a block p of its own. -/
def GivesStrs (ll : List ByteArray) (m : Nat) (g : Nat) (lb : Array Value) (w : World) : Prop :=
  ∀ (l : Nat) (J : Nat → Nat → World → Prop) (W : World), Below w.heap.size w W →
    (∀ W' p, Below W.heap.size W W' → W.heap.size ≤ p → p < W'.heap.size → J p 0 W') →
    (∀ p k x W1, J p k W1 → p < W1.heap.size → ll[k]? = some x → YieldAt Fence.wide m Tryz.prog l #[.string x] W1 fun e W' => e = .returned (.bool true) ∧ J p (k + 1) W' ∧ W'.heap[p]? = W1.heap[p]?) →
    Calls Tryz.prog g (#[.func (.yield l) #[] #[]] ++ lb) W fun e w' => (∃ v, e = .returned v) ∧ ∃ p, J p ll.length w'
theorem GivesStrs.later {ll : List ByteArray} {m g : Nat} {lb : Array Value} {w w' : World} (h : GivesStrs ll m g lb w) (hb : Below w.heap.size w w') : GivesStrs ll m g lb w' :=
  fun l J W hW hs hY => h l J W (hb.trans (hW.mono hb.size)) hs hY

theorem take_succ_some {α : Type} {l : List α} {k : Nat} {x : α} (hx : l[k]? = some x) : l.take (k + 1) = l.take k ++ [x] := by
  rw [List.take_add_one, hx]
  rfl
set_option maxRecDepth 100000 in
set_option maxHeartbeats 2000000 in
/-- slices.AppendSeq(nil, seq): what the iterator gave, in a row of the call's own. -/
theorem appendSeq_strs (ll : List ByteArray) (hl : ll.length ≤ 1000000) (m g : Nat) (lb : Array Value) (eg : Enters g) (w : World) (hseq : GivesStrs ll m g lb w) :
    Calls Tryz.prog 117 #[.slice none 0 0, .func (.func g) #[] lb] w fun e w' => ∃ v : Value, e = .returned v ∧ w'.ownsRow w.heap.size 9 1 v ll.length (strCells ll) ∧ Below w.heap.size w w' := by
  refine (callsIn_wide (n := m + 2)).1 ?_
  refine callsIn_of_wp_marks Tryz.func117 rfl trivial ?_ rfl
  simp only [Tryz.ntmps117, List.size_toArray, List.length_cons, List.length_nil, Nat.reduceAdd, Nat.reduceSub, Array.replicate_succ, Array.replicate_zero, List.push_toArray, List.append_toArray, List.nil_append, List.cons_append]
  gi_wp2
  refine wpIn_rangeFunc ?_
  intro fn hfn
  obtain ⟨W0, hW0⟩ : ∃ W0, w.alloc (.cells #[.slice none 0 0] 26) = W0 := ⟨_, rfl⟩
  have hs0 : W0.heap.size = w.heap.size + 1 := by rw [← hW0]; simp
  have hv0 : W0.heap[w.heap.size]? = some (.cells #[.slice none 0 0] 26 (0, 0)) := by rw [← hW0]; exact World.alloc_heap_new w _
  have hb0 : Below w.heap.size w W0 := by rw [← hW0]; exact (Below.refl _ w).alloc (Nat.le_refl _) _
  rw [hW0]
  obtain ⟨W1, hW1⟩ : ∃ W1, (W0.alloc (.deferred (some []))).alloc (.loop (apRec fn (.func (.func g) #[] lb) w.heap.size W0.heap.size .ready none)) = W1 := ⟨_, rfl⟩
  have hold : ∀ k, k < W0.heap.size → W1.heap[k]? = W0.heap[k]? := fun k hk => by
    rw [← hW1]; exact (Below.heap_alloc _ _ k (by simp; omega)).trans (Below.heap_alloc _ _ k hk)
  have hb1 : Below w.heap.size w W1 := by rw [← hW1]; exact (hb0.alloc hb0.size _).alloc (by have := hb0.size; simp; omega) _
  have hs1 : W1.heap.size = W0.heap.size + 2 := by rw [← hW1]; simp
  have hL1 : W1.heap[W0.heap.size + 1]? = some (.loop (apRec fn (.func (.func g) #[] lb) w.heap.size W0.heap.size .ready none)) := by rw [← hW1]; have := World.alloc_heap_new (W0.alloc (.deferred (some []))) (.loop (apRec fn (.func (.func g) #[] lb) w.heap.size W0.heap.size .ready none)); rwa [World.size_alloc] at this
  have hK1 : W1.heap[W0.heap.size]? = some (.deferred (some [])) := by rw [← hW1]; exact (Below.heap_alloc _ _ _ (by simp)).trans (World.alloc_heap_new W0 _)
  have hM : ∀ W' p, Below W1.heap.size W1 W' → W1.heap.size ≤ p → p < W'.heap.size → ApAt w fn (.func (.func g) #[] lb) w.heap.size (W0.heap.size + 1) W0.heap.size p (ll.take 0) W' := fun W' p hb hp _ =>
    ⟨⟨_, (hb.block _ (by omega)).trans ((hold w.heap.size (by omega)).trans hv0), World.ownsRow_nil _ _ _ _⟩, (hb.block _ (by omega)).trans hL1, (hb.block _ (by omega)).trans hK1, hb1.trans (hb.mono hb1.size), ⟨by omega, by omega, by omega⟩, by omega⟩
  refine ⟨W0.heap.size + 1, [{ target := .collected W0.heap.size, args := #[] }], W1, { target := .fn (.func g) lb, args := #[.func (.yield (W0.heap.size + 1)) #[] #[]] }, W1, g,
    #[.func (.yield (W0.heap.size + 1)) #[] #[]] ++ lb, W1, ?_, ?_, ?_, ?_, fun _ => by omega, ?_⟩
  · rw [← hW1]; exact run_enterLoop_outer _ _ _ _ _
  · simp [resolve, go_sem]
  · intro f' hf'; trivial
  · simp [invoke, go_sem, eg _ _]
  · refine callsIn_wide.2 ((hseq (W0.heap.size + 1) (fun p k W => ApAt w fn (.func (.func g) #[] lb) w.heap.size (W0.heap.size + 1) W0.heap.size p (ll.take k) W) W1 hb1 hM ?_).mono ?_)
    · intro p k x W2 hJ hp hx
      rw [take_succ_some hx]
      exact apYield Fence.wide m w fn trivial _ w.heap.size (W0.heap.size + 1) W0.heap.size p (by omega) (by omega) (by omega) (Nat.le_refl _) (by omega) (ll.take k) x W2 hJ hp (Nat.le_trans (by simp; omega) hl)
    rintro e W2 ⟨⟨v0, rfl⟩, p, h2⟩
    rw [List.take_length] at h2
    obtain ⟨v, hv, hrow⟩ := h2.box
    have hge := h2.ge
    have hend := run_endLoop (P := Tryz.prog) h2.L (by simp [apRec])
    obtain ⟨W3, hW3⟩ : ∃ W3, W2.putObj (W0.heap.size + 1) (.loop { apRec fn (.func (.func g) #[] lb) w.heap.size W0.heap.size .ready none with state := .exhausted }) = W3 := ⟨_, rfl⟩
    rw [hW3] at hend
    have hg3 : W2.grownBy W3 (some (W0.heap.size + 1)) := by rw [← hW3]; exact ap_grownBy_putObj _ _ _
    have hv3 : W3.heap[w.heap.size]? = some (.cells #[v] 26 (0, 0)) := by rw [← hW3]; exact (World.putObj_heap_other (by omega)).trans hv
    have hK3 : W3.heap[W0.heap.size]? = some (.deferred (some [])) := by rw [← hW3]; exact (World.putObj_heap_other (by omega)).trans h2.K
    have hrow3 := hrow.kept hg3 (ap_ownsRow_ne hrow h2.L (fun cur e => by cases e))
    have hb3 : Below w.heap.size w W3 := h2.below.grown hg3 h2.below.size (fun k e => by cases e; omega)
    obtain ⟨hc3, hf3⟩ := ap_cell_of_box hv3
    clear hW3
    refine ⟨none, W3, hend, ?_⟩
    gi_wp2
    rw [← hs0]
    refine ⟨by simp, .inl ⟨_, _, rfl, run_takeDeferred hK3, ?_⟩⟩
    exact ⟨_, results_tmp rfl _ _ _, v, rfl, own_mono (hrow3.kept (ap_grownBy_putObj _ _ _) (ap_ownsRow_ne hrow3 hK3 (fun cur e => by cases e))) (by omega), hb3.grown (ap_grownBy_putObj _ _ _) hb3.size (fun k e => by cases e; omega)⟩

theorem enters117 : Enters 117 := enters_of Tryz.func117 (by kernel_rfl) rfl
/-- slices.Collect(seq). -/
theorem collect_strs (ll : List ByteArray) (hl : ll.length ≤ 1000000) (m g : Nat) (lb : Array Value) (eg : Enters g) (w : World) (hseq : GivesStrs ll m g lb w) :
    Calls Tryz.prog 68 #[.func (.func g) #[] lb] w fun e w' => ∃ v : Value, e = .returned v ∧ w'.ownsRow w.heap.size 9 1 v ll.length (strCells ll) ∧ Below w.heap.size w w' := by
  go_enter Tryz.func68, Tryz.ntmps68
  go_wp2_with (go_at_call 117; refine (appendSeq_strs ll hl m g lb eg w hseq).mono ?_; rintro e w1 ⟨v, rfl, hr, hb⟩)
  go_ret
  exact ⟨v, rfl, hr, hb⟩
end Go.Proofs.YtmfnholhhakgaaaGreatDoor
end
section
namespace Go.Proofs.YtmfnholhhakgaaaGreatDoor
open Go Go.Proofs Go.RowKit Go.Sort

/-- How the program prints the reals of a code. -/
def PrintsReals (rp : RealD → ByteArray) (c : CodeD) (w : World) : Prop :=
  ∀ x ∈ c.reals, (rp x).size ≤ 1000 ∧ ∀ W, Below w.heap.size w W → Calls Tryz.prog 120 #[.agg #[.int .i64 x.man, .int .i64 x.exp]] W fun e W' => ∃ er, e = .returned (.tuple #[.string (rp x), .int .i64 er]) ∧ Below W.heap.size W W'
theorem PrintsReals.later {rp : RealD → ByteArray} {c : CodeD} {w w' : World} (h : PrintsReals rp c w) (hb : Below w.heap.size w w') : PrintsReals rp c w' :=
  fun x hx => ⟨(h x hx).1, fun W hW => (h x hx).2 W (hb.trans (hW.mono hb.size))⟩
def nlB : ByteArray := ⟨#[10]⟩
/-- The lines of a code, with their ends. -/
def linesE (rp : RealD → ByteArray) (c : CodeD) : List ByteArray := (linesD rp c).map (· ++ nlB)
/-- The text of a code. -/
def printS (rp : RealD → ByteArray) (c : CodeD) : ByteArray := ⟨(Lib.join ((linesE rp c).map (·.data.toList)) []).toArray⟩
theorem enters118 : Enters 118 := enters_of Tryz.func118 (by kernel_rfl) rfl
theorem enters69 : Enters 69 := enters_of Tryz.func69 (by kernel_rfl) rfl

theorem lines_gives (Bc : Nat) (h : CodeH) (c : CodeD) (rp : RealD → ByteArray) (w : World) (H : CodeAt w w.heap.size h c) (fc : fineB c (largeB h) = true) (hB : CBox Bc h w) (ht : Pow w.heap.size w) (hre : PrintsReals rp c w) (m : Nat) :
    GivesStrs (linesE rp c) m 118 #[.pointer (some ⟨Bc, 0, none⟩)] w := by
  intro l J W hW hs hY
  refine (lines1_any Bc l h c rp W (H.at hW) fc (hB.below hW) (ht.at hW hW.size) (hre.later hW) J m hs ?_).mono ?_
  · intro p k x W1 hJ hp hx
    exact hY p k (x ++ nlB) W1 hJ hp (by unfold linesE; rw [List.getElem?_map, hx]; rfl)
  · rintro e w' ⟨hv, p, hJ⟩
    exact ⟨hv, p, by rw [linesE, List.length_map]; exact hJ⟩
theorem linesE_length {w : World} {B : Nat} {h : CodeH} {c : CodeD} {rp : RealD → ByteArray} (H : CodeAt w B h c) (fc : fineB c (largeB h) = true) : (linesE rp c).length ≤ 32000 := by
  obtain ⟨_, hi, hp, ht, hs, hg, hr, ho⟩ := large_sizes (fine_well fc).1
  have e0 := H.ni.1
  have e1 := H.np.1
  have e2 := H.nt.1
  have e3 := H.ns.1
  have e4 := H.ng.1
  have e5 := H.nr.1
  have e6 := H.no.1
  simp [linesE, linesD]
  omega
theorem join_nil_cons (x : List UInt8) : ∀ l : List (List UInt8), Lib.join (x :: l) [] = x ++ Lib.join l []
  | [] => by simp [Lib.join]
  | y :: l => by simp [Lib.join]
theorem join_le (n : Nat) : ∀ l : List (List UInt8), (∀ x ∈ l, x.length ≤ n) → (Lib.join l []).length ≤ l.length * n
  | [], _ => by simp [Lib.join]
  | x :: l, h => by
    rw [join_nil_cons, List.length_append, List.length_cons, Nat.succ_mul]
    have h1 := h x (by simp)
    have h2 := join_le n l fun y hy => h y (by simp [hy])
    omega
theorem print_length {w : World} {B : Nat} {h : CodeH} {c : CodeD} {rp : RealD → ByteArray} (H : CodeAt w B h c) (fc : fineB c (largeB h) = true) (hre : ∀ x ∈ c.reals, (rp x).size ≤ 1000) : (Lib.join ((linesE rp c).map (·.data.toList)) []).length ≤ 140737488355328 := by
  have h1 := join_le 100001 ((linesE rp c).map (·.data.toList)) ?_
  · have h2 := linesE_length (rp := rp) H fc
    rw [List.length_map] at h1
    exact Nat.le_trans h1 (Nat.le_trans (Nat.mul_le_mul_right 100001 h2) (by decide))
  · intro x hx
    obtain ⟨y, hy, rfl⟩ := List.mem_map.1 hx
    obtain ⟨z, hz, rfl⟩ := List.mem_map.1 hy
    have := lines_size H fc hre z hz
    have e : (z ++ nlB).size = z.size + 1 := by rw [size_app]; rfl
    show (z ++ nlB).data.toList.length ≤ _
    have e2 : (z ++ nlB).data.toList.length = (z ++ nlB).size := rfl
    omega
def lines_v (w : World) (h : CodeH) : World := w.alloc (.cells #[.slice h.i.a h.i.n h.i.c, .slice h.p.a h.p.n h.p.c, .slice h.t.a h.t.n h.t.c, .slice h.s.a h.s.n h.s.c, .slice h.g.a h.g.n h.g.c, .slice h.r.a h.r.n h.r.c, .slice h.o.a h.o.n h.o.c] 30)
theorem lines_box (w : World) (h : CodeH) : CBox w.heap.size h (lines_v w h) := by
  have hn : (lines_v w h).heap[w.heap.size]? = _ := heap_alloc_new w (.cells #[.slice h.i.a h.i.n h.i.c, .slice h.p.a h.p.n h.p.c, .slice h.t.a h.t.n h.t.c, .slice h.s.a h.s.n h.s.c, .slice h.g.a h.g.n h.g.c, .slice h.r.a h.r.n h.r.c, .slice h.o.a h.o.n h.o.c] 30)
  exact ⟨by unfold lines_v; rw [World.size_alloc]; omega, cell_of_row _ w.heap.size 0 _ 30 (0, 0) hn, cell_of_row _ w.heap.size 1 _ 30 (0, 0) hn, cell_of_row _ w.heap.size 2 _ 30 (0, 0) hn, cell_of_row _ w.heap.size 3 _ 30 (0, 0) hn, cell_of_row _ w.heap.size 4 _ 30 (0, 0) hn, cell_of_row _ w.heap.size 5 _ 30 (0, 0) hn, cell_of_row _ w.heap.size 6 _ 30 (0, 0) hn⟩
theorem lines_any (h : CodeH) (w : World) : Calls Tryz.prog 69 #[.agg #[.slice h.i.a h.i.n h.i.c, .slice h.p.a h.p.n h.p.c, .slice h.t.a h.t.n h.t.c, .slice h.s.a h.s.n h.s.c, .slice h.g.a h.g.n h.g.c, .slice h.r.a h.r.n h.r.c, .slice h.o.a h.o.n h.o.c]] w
    fun e w' => e = .returned (.func (.func 118) #[] #[.pointer (some ⟨w.heap.size, 0, none⟩)]) ∧ w' = lines_v w h := by
  go_enter Tryz.func69, Tryz.ntmps69
  go_wp2
  go_ret
  exact ⟨rfl, rfl⟩
/-- strings.Join with an empty separator of a row that the call owns. -/
theorem join_own (base : Nat) (v : Value) (xs : List ByteArray) (w : World) (h : w.ownsRow base 9 1 v xs.length (strCells xs)) (hpos : 0 < xs.length) (hlen : (Lib.join (xs.map (·.data.toList)) []).length ≤ 140737488355328) (hN : xs.length ≤ 1000000) :
    Calls Tryz.prog 67 #[v, .string ⟨#[]⟩] w fun e w' => e = .returned (.string ⟨(Lib.join (xs.map (·.data.toList)) []).toArray⟩) ∧ Below w.heap.size w w' := by
  obtain ⟨g, cap, rfl, hg1, hg2⟩ := h.form hpos
  have hcells : ∀ (j : Nat) x, xs[j]? = some x → w.cell? ⟨g, 0 + j, none⟩ = some (.string x) := fun j x hx => by
    have := h.cells (g := g) rfl j (.string x) (by simp [strCells, hx])
    rwa [show Addr.add ⟨g, 0, none⟩ j = ⟨g, 0 + j, none⟩ from by unfold Addr.add; split <;> simp_all] at this
  refine Tryz.strings_Join g 0 cap xs ⟨#[]⟩ w hcells hg2 (by omega) ?_ hlen
  rcases h.2 with ⟨e, _⟩ | ⟨g', cap', cur, e, _, _, hc, _⟩
  · cases e
  · cases e
    exact hc

theorem linesE_pos {w : World} {B : Nat} {h : CodeH} {c : CodeD} {rp : RealD → ByteArray} (H : CodeAt w B h c) (fc : fineB c (largeB h) = true) : 0 < (linesE rp c).length := by
  have := (large_sizes (fine_well fc).1).1
  have := H.ni.1
  simp [linesE, linesD]
  omega
theorem enters67 : Enters 67 := enters_of Tryz.func67 (by kernel_rfl) rfl
theorem enters68 : Enters 68 := enters_of Tryz.func68 (by kernel_rfl) rfl
theorem Print_bad (h : CodeH) (c : CodeD) (w : World) (H : CodeAt w w.heap.size h c) (fc : fineB c (largeB h) = false) : Calls Tryz.prog 21 #[.agg #[.slice h.i.a h.i.n h.i.c, .slice h.p.a h.p.n h.p.c, .slice h.t.a h.t.n h.t.c, .slice h.s.a h.s.n h.s.c, .slice h.g.a h.g.n h.g.c, .slice h.r.a h.r.n h.r.c, .slice h.o.a h.o.n h.o.c]] w
    fun e w' => e = .returned (.tuple #[.string ⟨#[]⟩, .int .i64 1]) ∧ Below w.heap.size w w' := by
  have HC := Lib.hid H
  have HF := Lib.hid fc
  clear H fc
  have B0 := Lib.hid (BInv.start h w 30)
  go_enter Tryz.func21, Tryz.ntmps21
  go_wp2_with (go_at_call 56; refine (fine_any h c _ (HC.out.at B0.out.b)).mono ?_; rintro e w1 ⟨rfl, hb1⟩; have B1 := Lib.hid (B0.out.below hb1); clear hb1; rw [HF.out])
  go_ret2
  exact ⟨rfl, B1.out.b⟩
set_option maxRecDepth 100000 in
set_option maxHeartbeats 1000000 in
/-- code.Print of a code that Check takes. -/
theorem Print_ok (h : CodeH) (c : CodeD) (rp : RealD → ByteArray) (w : World) (H : CodeAt w w.heap.size h c) (fc : fineB c (largeB h) = true) (ht : Pow w.heap.size w) (hre : PrintsReals rp c w) : Calls Tryz.prog 21 #[.agg #[.slice h.i.a h.i.n h.i.c, .slice h.p.a h.p.n h.p.c, .slice h.t.a h.t.n h.t.c, .slice h.s.a h.s.n h.s.c, .slice h.g.a h.g.n h.g.c, .slice h.r.a h.r.n h.r.c, .slice h.o.a h.o.n h.o.c]] w
    fun e w' => e = .returned (.tuple #[.string (printS rp c), .int .i64 0]) ∧ Below w.heap.size w w' := by
  have HC := Lib.hid H
  have HF := Lib.hid fc
  have HT := Lib.hid ht
  have HRE := Lib.hid hre
  clear H fc ht hre
  have B0 := Lib.hid (BInv.start h w 30)
  have P0 := Lib.hid (linesE_pos (rp := rp) HC.out HF.out)
  have P1 := Lib.hid (linesE_length (rp := rp) HC.out HF.out)
  have P2 := Lib.hid (print_length HC.out HF.out fun x hx => (HRE.out x hx).1)
  go_enter Tryz.func21, Tryz.ntmps21
  go_wp2_with (first
    | (go_at_call 56; refine (fine_any h c _ (HC.out.at B0.out.b)).mono ?_; rintro e w1 ⟨rfl, hb1⟩; have B1 := Lib.hid (B0.out.below hb1); clear hb1; rw [HF.out]; have y0 := B1.out.c0; have y1 := B1.out.c1; have y2 := B1.out.c2; have y3 := B1.out.c3; have y4 := B1.out.c4; have y5 := B1.out.c5; have y6 := B1.out.c6)
    | (go_at_call 69; refine (lines_any h w1).mono ?_; rintro e w2 ⟨rfl, rfl⟩; clear y0 y1 y2 y3 y4 y5 y6; have hal : Below w1.heap.size w1 (lines_v w1 h) := (Below.refl _ _).alloc (Nat.le_refl _) _; have B2 := Lib.hid (B1.out.below hal); have HBX := Lib.hid (lines_box w1 h); clear hal)
    | (go_at_call 68; refine (collect_strs (linesE rp c) (by have := P1.out; omega) 5 118 _ enters118 _ (lines_gives _ h c rp _ (HC.out.at B2.out.b) HF.out HBX.out (HT.out.at B2.out.b B2.out.b.size) (HRE.out.later B2.out.b) 5)).mono ?_; rintro e w3 ⟨v, rfl, hr, hb⟩; have B3 := Lib.hid (B2.out.below hb); have HR := Lib.hid hr; clear hr hb)
    | (go_at_call 67; refine (join_own _ v _ _ HR.out P0.out P2.out (by have := P1.out; omega)).mono ?_; rintro e w4 ⟨rfl, hb⟩; have B4 := Lib.hid (B3.out.below hb); clear hb))
  go_ret2
  exact ⟨rfl, B4.out.b⟩
end Go.Proofs.YtmfnholhhakgaaaGreatDoor
end
