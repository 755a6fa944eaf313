/- code.Parse: its walk. -/
import Derived.Test.YtmfnholhhakgaaaGreatDoorMgc
import Derived.RangeFuncCalls
namespace Go.Proofs.YtmfnholhhakgaaaGreatDoor
open Go Go.Proofs Go.RowKit Go.Sort
set_option maxRecDepth 100000
/-- A code whose strings are no larger than memory, and whose reals' parts are an int's. -/
def Sane (c : CodeD) : Prop := sizeP c ≤ 1000000000 ∧ (∀ s ∈ c.strings, Small s.size) ∧ (∀ l ∈ c.switches, Small l.length) ∧ ∀ x ∈ c.reals, I64 x.man ∧ I64 x.exp
def shOf : Value → SH
  | .slice a n c => ⟨a, n, c⟩
  | _ => ⟨none, 0, 0⟩
theorem shOf_own {w : World} {base : Nat} {e : TypeId} {size : Nat} {v : Value} {n : Nat} {xs : List Value} (h : w.ownsRow base e size v n xs) : v = .slice (shOf v).a (shOf v).n (shOf v).c ∧ (shOf v).n = n := by
  rcases h.2 with ⟨rfl, rfl⟩ | ⟨g, cap, cur, rfl, _⟩
  · exact ⟨rfl, rfl⟩
  · exact ⟨rfl, rfl⟩
theorem own_reads {w : World} {base : Nat} {e : TypeId} {size : Nat} {v : Value} {n : Nat} {xs : List Value} (h : w.ownsRow base e size v n xs) : Reads w w.heap.size size (shOf v).a (shOf v).n xs := by
  rcases h.2 with ⟨rfl, rfl⟩ | ⟨g, cap, cur, rfl, _⟩
  · exact ⟨h.1, fun hn => absurd hn (Nat.lt_irrefl _)⟩
  · exact Reads.of_own h
theorem sh_v {x : SH} {v : Value} (h : v = x.v) : shOf v = x := by
  subst h
  rfl
/-- The parser's code lies in memory. -/
theorem pst_code {H Bp Mo Mf : Nat} {w : World} {g : Int} {v0 v1 v2 v3 v4 v5 v6 : Value} {sh : List SH} {b6 : Nat} {c : CodeD} (I : PInv H Bp Mo Mf w g (rowsP v0 v1 v2 v3 v4 v5 v6 sh c)) (S : PSw H b6 w v6 g sh c) (hs : Sane c) :
    CodeAt w w.heap.size ⟨shOf v0, shOf v1, shOf v2, shOf v3, shOf v4, shOf v5, shOf v6⟩ c := by
  obtain ⟨hz, h1, h3, h2⟩ := hs
  have r0 := I.rows 0 _ rfl
  have r1 := I.rows 1 _ rfl
  have r2 := I.rows 2 _ rfl
  have r3 := I.rows 3 _ rfl
  have r4 := I.rows 4 _ rfl
  have r5 := I.rows 5 _ rfl
  have r6 := I.rows 6 _ rfl
  unfold sizeP at hz
  refine { i := own_reads r0, p := own_reads r1, t := own_reads r2, s := ⟨sh, own_reads r3, S.len, fun k x l hx hl => ?_⟩, g := own_reads r4, r := own_reads r5, o := own_reads r6, ni := ⟨(shOf_own r0).2, ?_⟩, np := ⟨(shOf_own r1).2, ?_⟩, nt := ⟨(shOf_own r2).2, ?_⟩, ns := ⟨(shOf_own r3).2.trans S.len, ?_⟩, ng := ⟨(shOf_own r4).2, ?_⟩, nr := ⟨(shOf_own r5).2, ?_⟩, no := ⟨(shOf_own r6).2, ?_⟩, zs := h1, wr := h2 }
  · obtain ⟨h4, h5, _⟩ := S.own k x l hx hl
    exact ⟨own_reads h4, by rw [h5]; exact h3 l (List.mem_of_getElem? hl)⟩
  all_goals (unfold Small; simp only [(shOf_own r0).2, (shOf_own r1).2, (shOf_own r2).2, (shOf_own r3).2, (shOf_own r4).2, (shOf_own r5).2, (shOf_own r6).2]; have := S.len; omega)
theorem rowsF_length : ∀ (n : Nat) (s : ByteArray), (rowsF n s).length ≤ n
  | 0, _ => by simp [rowsF]
  | n + 1, s => by
    rw [rowsF]
    split
    · simp
    · split
      · rw [List.length_cons]
        have := rowsF_length n (s.extract (nlAt s + 1).toNat s.size)
        omega
      · simp
theorem PBox.below {N n : Nat} {w V V' : World} (P : PBox N w V n) (hb : Below V.heap.size V V') : PBox N w V' n := by
  have hz : N + 6 < V.heap.size := (Array.getElem?_eq_some_iff.1 P.vp).1
  exact ⟨P.b.trans (hb.mono (by have := P.b.size; omega)), (hb.block _ (by omega)).trans P.r2, (hb.block _ (by omega)).trans P.r3, (hb.block _ (by omega)).trans P.r4, (hb.block _ (by omega)).trans P.vp⟩
theorem results_23 (N : Nat) (V : World) (T : Array Value) (v0 v1 v2 v3 v4 v5 v6 ce at' : Value)
    (t2 : T.getD 2 undef = .pointer (some ⟨N, 0, none⟩)) (t3 : T.getD 3 undef = .pointer (some ⟨N + 1, 0, none⟩)) (t4 : T.getD 4 undef = .pointer (some ⟨N + 2, 0, none⟩))
    (c2 : V.heap[N]? = some (.cells #[v0, v1, v2, v3, v4, v5, v6] 30 (0, 0))) (c3 : V.heap[N + 1]? = some (.cells #[ce] 33 (0, 0))) (c4 : V.heap[N + 2]? = some (.cells #[at'] 3 (0, 0))) :
    (results Tryz.f23 T).run Tryz.prog V = .ok (.tuple #[.agg #[v0, v1, v2, v3, v4, v5, v6], ce, at']) V := by
  have q0 := cell_of_row V N 0 _ _ _ c2
  have q1 := cell_of_row V N 1 _ _ _ c2
  have q2 := cell_of_row V N 2 _ _ _ c2
  have q3 := cell_of_row V N 3 _ _ _ c2
  have q4 := cell_of_row V N 4 _ _ _ c2
  have q5 := cell_of_row V N 5 _ _ _ c2
  have q6 := cell_of_row V N 6 _ _ _ c2
  have q7 := cell_of_row V (N + 1) 0 _ _ _ c3
  have q8 := cell_of_row V (N + 2) 0 _ _ _ c4
  simp only [Array.getD_eq_getD_getElem?] at t2 t3 t4
  simp [results, Tryz.results23, go_sem, t2, t3, t4, Tryz.sizeOf30, q0, q1, q2, q3, q4, q5, q6, q7, q8]

theorem set7v_other {w : World} {O k : Nat} (v0 v1 v2 v3 v4 v5 v6 : Value) (hk : k ≠ O) : (set7v w O v0 v1 v2 v3 v4 v5 v6).heap[k]? = w.heap[k]? := by
  have h : ∀ (W : World) (j : Nat) (v : Value), (W.setCell ⟨O, j, none⟩ v).heap[k]? = W.heap[k]? := fun W j v => Below.heap_setCell _ _ _ _ hk
  exact (h _ 6 v6).trans ((h _ 5 v5).trans ((h _ 4 v4).trans ((h _ 3 v3).trans ((h _ 2 v2).trans ((h _ 1 v1).trans (h _ 0 v0))))))
theorem set7v_grown (w : World) (O : Nat) (v0 v1 v2 v3 v4 v5 v6 : Value) : w.grownBy (set7v w O v0 v1 v2 v3 v4 v5 v6) (some O) :=
  have hb := set7v_below v0 v1 v2 v3 v4 v5 v6 (Below.refl 0 w) (Nat.zero_le O)
  ⟨hb.os, hb.tape, hb.output, hb.size, fun k _ hk => set7v_other v0 v1 v2 v3 v4 v5 v6 (fun e => hk (by rw [e]))⟩
theorem pi_grown {H Bp Mo Mf l : Nat} {V V' : World} {g : Int} {c : CodeD} {v0 v1 v2 v3 v4 v5 v6 : Value} {sh : List SH} {b6 : Nat} (I : PInv H Bp Mo Mf V g (rowsP v0 v1 v2 v3 v4 v5 v6 sh c)) (S : PSw H b6 V v6 g sh c) (hg : V.grownBy V' (some l)) (hl : l < H) (h1 : l ≠ Bp) (h2 : l ≠ Mo) (h3 : l ≠ Mf) : PInv H Bp Mo Mf V' g (rowsP v0 v1 v2 v3 v4 v5 v6 sh c) ∧ PSw H b6 V' v6 g sh c := by
  have hk : ∀ k x, V.heap[k]? = some x → k ≠ l → V'.heap[k]? = some x := fun k x hx hkl => (hg.block k (Array.getElem?_eq_some_iff.1 hx).1 (fun e => hkl (by cases e; rfl))).trans hx
  have ho : ∀ {base : Nat} {e : TypeId} {size : Nat} {v : Value} {n : Nat} {xs : List Value}, H ≤ base → V.ownsRow base e size v n xs → V'.ownsRow base e size v n xs := fun hb h => h.kept hg (by
    cases hv : Value.ownBlock _ with
    | none => exact .inl rfl
    | some q => exact .inr fun e => by have := (h.lt q hv).1; cases e; omega)
  obtain ⟨ob, hob, hop, hno⟩ := I.ops
  exact ⟨{ lo := I.lo, hz := Nat.le_trans I.hz hg.size, box := hk _ _ I.box (Ne.symm h1), types := I.types, rows := fun i r hr => ho (Nat.le_refl _) (I.rows i r hr), ops := ⟨ob, hk _ _ hob (Ne.symm h2), hop, hno⟩, forms := hk _ _ I.forms (Ne.symm h3) },
    { len := S.len, own := fun k x l' hx hl' => ⟨ho (Nat.le_refl _) (S.own k x l' hx hl').1, (S.own k x l' hx hl').2⟩, o6 := ho S.hH S.o6, hH := S.hH, hb := Nat.le_trans S.hb hg.size, n6 := S.n6 }⟩
/-- The world in which Parse's results are set. -/
def fin (w : World) (N : Nat) (v0 v1 v2 v3 v4 v5 v6 ce at' : Value) : World := ((set7v w N v0 v1 v2 v3 v4 v5 v6).setCell ⟨N + 1, 0, none⟩ ce).setCell ⟨N + 2, 0, none⟩ at'
theorem fin_cells {V : World} {N : Nat} {a0 a1 a2 a3 a4 a5 a6 b c : Value} (v0 v1 v2 v3 v4 v5 v6 ce at' : Value) (c2 : V.heap[N]? = some (.cells #[a0, a1, a2, a3, a4, a5, a6] 30 (0, 0))) (c3 : V.heap[N + 1]? = some (.cells #[b] 33 (0, 0))) (c4 : V.heap[N + 2]? = some (.cells #[c] 3 (0, 0))) :
    (fin V N v0 v1 v2 v3 v4 v5 v6 ce at').heap[N]? = some (.cells #[v0, v1, v2, v3, v4, v5, v6] 30 (0, 0)) ∧ (fin V N v0 v1 v2 v3 v4 v5 v6 ce at').heap[N + 1]? = some (.cells #[ce] 33 (0, 0)) ∧ (fin V N v0 v1 v2 v3 v4 v5 v6 ce at').heap[N + 2]? = some (.cells #[at'] 3 (0, 0)) := by
  have d3 := (set7v_other v0 v1 v2 v3 v4 v5 v6 (show N + 1 ≠ N by omega)).trans c3
  have d4 := (set7v_other v0 v1 v2 v3 v4 v5 v6 (show N + 2 ≠ N by omega)).trans c4
  have h : ∀ (W : World) (b j k : Nat) (v : Value), k ≠ b → (W.setCell ⟨b, j, none⟩ v).heap[k]? = W.heap[k]? := fun W b j k v hk => Below.heap_setCell _ _ _ _ hk
  refine ⟨?_, ?_, ?_⟩
  · unfold fin
    rw [h _ _ _ _ _ (by omega), h _ _ _ _ _ (by omega)]
    exact set7v_heap v0 v1 v2 v3 v4 v5 v6 c2
  · unfold fin
    rw [h _ _ _ _ _ (by omega)]
    exact heap_setCell_at d3 ce
  · exact heap_setCell_at ((h _ _ _ _ _ (by omega)).trans d4) at'
/-- The three boxes of the results. -/
structure Boxes (V : World) (N : Nat) (v0 v1 v2 v3 v4 v5 v6 ce at' : Value) : Prop where
  c2 : V.heap[N]? = some (.cells #[v0, v1, v2, v3, v4, v5, v6] 30 (0, 0))
  c3 : V.heap[N + 1]? = some (.cells #[ce] 33 (0, 0))
  c4 : V.heap[N + 2]? = some (.cells #[at'] 3 (0, 0))
theorem Boxes.kept {V V' : World} {N l : Nat} {v0 v1 v2 v3 v4 v5 v6 ce at' : Value} (B : Boxes V N v0 v1 v2 v3 v4 v5 v6 ce at') (hg : V.grownBy V' (some l)) (hl : N + 3 ≤ l) : Boxes V' N v0 v1 v2 v3 v4 v5 v6 ce at' := by
  have hk : ∀ k x, V.heap[k]? = some x → k ≤ N + 2 → V'.heap[k]? = some x := fun k x hx hkl => (hg.block k (Array.getElem?_eq_some_iff.1 hx).1 (fun e => by cases e; omega)).trans hx
  exact ⟨hk _ _ B.c2 (by omega), hk _ _ B.c3 (by omega), hk _ _ B.c4 (by omega)⟩
theorem leave_done {N D : Nat} {V : World} {T : Array Value} {R : Ending → World → Prop} {v0 v1 v2 v3 v4 v5 v6 ce at' : Value}
    (t2 : T.getD 2 undef = .pointer (some ⟨N, 0, none⟩)) (t3 : T.getD 3 undef = .pointer (some ⟨N + 1, 0, none⟩)) (t4 : T.getD 4 undef = .pointer (some ⟨N + 2, 0, none⟩))
    (B : Boxes V N v0 v1 v2 v3 v4 v5 v6 ce at') (hD : V.heap[D]? = some (.deferred (some []))) (hND : N + 3 ≤ D) (hR : R (.returned (.tuple #[.agg #[v0, v1, v2, v3, v4, v5, v6], ce, at'])) (V.putObj D (.deferred none))) :
    LeavesInM Fence.wide 11 Tryz.prog Tryz.f23 T R [{ target := .collected D, args := #[] }, { target := .fn (.func 71) #[.pointer (some ⟨N, 0, none⟩), .pointer (some ⟨N + 1, 0, none⟩)], args := #[] }] .returning V := by
  have B' := B.kept (ap_grownBy_putObj V D (.deferred none)) hND
  refine ⟨by simp, .inl ⟨_, _, rfl, run_takeDeferred hD, by simp, .inr ⟨fun h => (by cases h), _, _, 71, #[.pointer (some ⟨N, 0, none⟩), .pointer (some ⟨N + 1, 0, none⟩)], rfl, by simp [invoke, go_sem, enters_of Tryz.func71 (by kernel_rfl) rfl _ _], fun _ _ => trivial, (catch_idle _ _ _ _).mono ?_⟩⟩⟩
  rintro e u' w' ⟨rfl, rfl, rfl⟩
  exact ⟨_, results_23 N _ T v0 v1 v2 v3 v4 v5 v6 ce at' t2 t3 t4 B'.c2 B'.c3 B'.c4, hR⟩
theorem leave_bad {N D : Nat} {V : World} {T : Array Value} {R : Ending → World → Prop} {v0 v1 v2 v3 v4 v5 v6 ce at' : Value}
    (t2 : T.getD 2 undef = .pointer (some ⟨N, 0, none⟩)) (t3 : T.getD 3 undef = .pointer (some ⟨N + 1, 0, none⟩)) (t4 : T.getD 4 undef = .pointer (some ⟨N + 2, 0, none⟩))
    (B : Boxes V N v0 v1 v2 v3 v4 v5 v6 ce at') (hD : V.heap[D]? = some (.deferred (some []))) (hND : N + 3 ≤ D)
    (hR : R (.returned (.tuple #[.agg #[.slice none 0 0, .slice none 0 0, .slice none 0 0, .slice none 0 0, .slice none 0 0, .slice none 0 0, .slice none 0 0], .int .i64 7, at'])) ((set7v ((V.putObj D (.deferred none)).alloc (.cells #[] 122)) N (.slice none 0 0) (.slice none 0 0) (.slice none 0 0) (.slice none 0 0) (.slice none 0 0) (.slice none 0 0) (.slice none 0 0)).setCell ⟨N + 1, 0, none⟩ (.int .i64 7))) :
    LeavesInM Fence.wide 11 Tryz.prog Tryz.f23 T R [{ target := .collected D, args := #[] }, { target := .fn (.func 71) #[.pointer (some ⟨N, 0, none⟩), .pointer (some ⟨N + 1, 0, none⟩)], args := #[] }] (.panicking [{ v := .iface 122 (.agg #[]), recovered := false }]) V := by
  have B' := B.kept (ap_grownBy_putObj V D (.deferred none)) hND
  refine ⟨by simp, .inl ⟨_, _, rfl, run_takeDeferred hD, by simp, .inr ⟨fun h => (by cases h), _, _, 71, #[.pointer (some ⟨N, 0, none⟩), .pointer (some ⟨N + 1, 0, none⟩)], rfl, by simp [invoke, go_sem, enters_of Tryz.func71 (by kernel_rfl) rfl _ _], fun _ _ => trivial, (catch_bad _ _ _ _ _ _ _ _ _ _ _ B'.c2 B'.c3).mono ?_⟩⟩⟩
  rintro e u' w' ⟨rfl, rfl, rfl⟩
  have hal : ∀ k x, (V.putObj D (.deferred none)).heap[k]? = some x → ((V.putObj D (.deferred none)).alloc (.cells #[] 122)).heap[k]? = some x := fun k x hx => (Below.heap_alloc _ _ _ (Array.getElem?_eq_some_iff.1 hx).1).trans hx
  have h : ∀ (W : World) (b j k : Nat) (v : Value), k ≠ b → (W.setCell ⟨b, j, none⟩ v).heap[k]? = W.heap[k]? := fun W b j k v hk => Below.heap_setCell _ _ _ _ hk
  refine ⟨_, results_23 N _ T (.slice none 0 0) (.slice none 0 0) (.slice none 0 0) (.slice none 0 0) (.slice none 0 0) (.slice none 0 0) (.slice none 0 0) (.int .i64 7) at' t2 t3 t4 ?_ ?_ ?_, hR⟩
  · exact (h _ _ _ _ _ (by omega)).trans (set7v_heap _ _ _ _ _ _ _ (hal _ _ B'.c2))
  · exact heap_setCell_at ((set7v_other _ _ _ _ _ _ _ (by omega)).trans (hal _ _ B'.c3)) _
  · exact (h _ _ _ _ _ (by omega)).trans ((set7v_other _ _ _ _ _ _ _ (by omega)).trans (hal _ _ B'.c4))

theorem fin_below {B N : Nat} {w0 w : World} (v0 v1 v2 v3 v4 v5 v6 ce at' : Value) (h : Below B w0 w) (hO : B ≤ N) : Below B w0 (fin w N v0 v1 v2 v3 v4 v5 v6 ce at') :=
  ((set7v_below v0 v1 v2 v3 v4 v5 v6 h hO).setCell (p := ⟨N + 1, 0, none⟩) (by show B ≤ N + 1; omega) ce).setCell (p := ⟨N + 2, 0, none⟩) (by show B ≤ N + 2; omega) at'
theorem fin_other {w : World} {N k : Nat} (v0 v1 v2 v3 v4 v5 v6 ce at' : Value) (h0 : k ≠ N) (h1 : k ≠ N + 1) (h2 : k ≠ N + 2) : (fin w N v0 v1 v2 v3 v4 v5 v6 ce at').heap[k]? = w.heap[k]? :=
  (Below.heap_setCell _ _ _ _ h2).trans ((Below.heap_setCell _ _ _ _ h1).trans (set7v_other v0 v1 v2 v3 v4 v5 v6 h0))
theorem fin_code {N D : Nat} {V : World} {g : Int} {c : CodeD} {v0 v1 v2 v3 v4 v5 v6 : Value} {sh : List SH} {b6 : Nat} (o : Obj) (ce at' : Value) (I : PInv (D + 2) (N + 5) (N + 3) (N + 4) V g (rowsP v0 v1 v2 v3 v4 v5 v6 sh c)) (S : PSw (D + 2) b6 V v6 g sh c) (hs : Sane c) (hN : N + 8 ≤ D) :
    CodeAt ((fin V N v0 v1 v2 v3 v4 v5 v6 ce at').putObj D o) ((fin V N v0 v1 v2 v3 v4 v5 v6 ce at').putObj D o).heap.size ⟨shOf v0, shOf v1, shOf v2, shOf v3, shOf v4, shOf v5, shOf v6⟩ c := by
  obtain ⟨I1, S1⟩ := pi_grown I S (set7v_grown V N v0 v1 v2 v3 v4 v5 v6) (by omega) (by omega) (by omega) (by omega)
  obtain ⟨I2, S2⟩ := pi_grown I1 S1 (ap_grownBy_setCell0 _ (N + 1) ce) (by omega) (by omega) (by omega) (by omega)
  obtain ⟨I3, S3⟩ := pi_grown I2 S2 (ap_grownBy_setCell0 _ (N + 2) at') (by omega) (by omega) (by omega) (by omega)
  obtain ⟨I4, S4⟩ := pi_grown I3 S3 (ap_grownBy_putObj _ D o) (by omega) (by omega) (by omega) (by omega)
  exact pst_code I4 S4 hs
theorem below_put {a w : World} {k : Nat} {o : Obj} (h : Below a.heap.size a w) (hk : a.heap.size ≤ k) : Below a.heap.size a (w.putObj k o) :=
  h.grown (ap_grownBy_putObj _ _ _) h.size (fun k e => by cases e; exact hk)
theorem rows_length (s : ByteArray) : (rowsOf s).length ≤ s.size := rowsF_length _ _
/-- Whether a code has too many elements, or no instruction. -/
def largeC (c : CodeD) : Bool := decide (c.instrs.length = 0 ∨ 20000 < c.instrs.length ∨ 2000 < c.procs.length ∨ 2000 < c.thunks.length ∨ 2000 < c.switches.length ∨ 2000 < c.strings.length ∨ 2000 < c.reals.length ∨ 2000 < c.owns.length)
theorem large_at {w : World} {B : Nat} {h : CodeH} {c : CodeD} (H : CodeAt w B h c) : largeB h = largeC c := by
  unfold largeB largeC
  rw [H.ni.1, H.np.1, H.nt.1, H.ns.1, H.ng.1, H.nr.1, H.no.1]
/-- How Parse ends: as the rows were read. -/
def ParsePost (w : World) (res : (CodeD × Int) ⊕ Nat) (e : Ending) (w' : World) : Prop := match res with
  | .inr n => e = .returned (.tuple #[.agg #[.slice none 0 0, .slice none 0 0, .slice none 0 0, .slice none 0 0, .slice none 0 0, .slice none 0 0, .slice none 0 0], .int .i64 7, .int .i64 n]) ∧ Below w.heap.size w w'
  | .inl st => if chkErr st.1 (largeC st.1) = 0 then ∃ h : CodeH, e = .returned (.tuple #[.agg #[.slice h.i.a h.i.n h.i.c, .slice h.p.a h.p.n h.p.c, .slice h.t.a h.t.n h.t.c, .slice h.s.a h.s.n h.s.c, .slice h.g.a h.g.n h.g.c, .slice h.r.a h.r.n h.r.c, .slice h.o.a h.o.n h.o.c], .int .i64 0, .int .i64 (-1)]) ∧ CodeAt w' w'.heap.size h st.1 ∧ Below w.heap.size w w'
    else e = .returned (.tuple #[.agg #[.slice none 0 0, .slice none 0 0, .slice none 0 0, .slice none 0 0, .slice none 0 0, .slice none 0 0, .slice none 0 0], .int .i64 (chkErr st.1 (largeC st.1)), .int .i64 (-1)]) ∧ Below w.heap.size w w'
set_option maxHeartbeats 8000000 in
theorem Parse_gen (lineR : CodeD × Int → ByteArray → Option (CodeD × Int)) (s : ByteArray) (w : World) (hs : s.size ≤ 100000000) (hv : Vars w.heap.size w) (hlines : LinesOk lineR (rowsOf s) (codeZ, 0)) (hsane : ∀ st, readRows lineR (rowsOf s) 0 (codeZ, 0) = .inl st → Sane st.1) :
    Calls Tryz.prog 23 #[.string s] w (ParsePost w (readRows lineR (rowsOf s) 0 (codeZ, 0))) := by
  have HV := Lib.hid hv
  have HLN := Lib.hid hlines
  have HSN := Lib.hid hsane
  have HRL := Lib.hid (rows_length s)
  clear hv hlines hsane
  have hmm := @run_makeMap Tryz.prog
  have hm0 : (pw w).heap[w.heap.size + 4]? = some (.map fmtEntries.toArray 53) := by
    have h := (pw_inv w).mf
    rw [heap_alloc_old (pw w) _ (by unfold pw; simp)] at h
    exact h
  have hrg : (Instr.range 79 (.map (some (w.heap.size + 1 + 1 + 1 + 1)))).run Tryz.prog (((((((w.alloc (.cells #[.slice none 0 0, .slice none 0 0, .slice none 0 0, .slice none 0 0, .slice none 0 0, .slice none 0 0, .slice none 0 0] 30)).alloc (.cells #[.int .i64 0] 33)).alloc (.cells #[.int .i64 0] 3)).alloc (.map #[] 0)).alloc (fm 53)).alloc (.cells #[.slice none 0 0, .slice none 0 0, .slice none 0 0, .slice none 0 0, .slice none 0 0, .slice none 0 0, .slice none 0 0, .int .i64 0, .map (some (w.heap.size + 1 + 1 + 1)), .map (some (w.heap.size + 1 + 1 + 1 + 1))] 120)).alloc (.cells #[.pointer (some ⟨w.heap.size + 1 + 1 + 1 + 1 + 1, 0, none⟩)] 117)) = .ok (.pointer (some ⟨w.heap.size + 1 + 1 + 1 + 1 + 1 + 1 + 1, 0, none⟩)) ((pw w).alloc (.mapIter (some (w.heap.size + 4)) 53 #[] 53)) := by
    have h := run_range_map (P := Tryz.prog) (pw w) 79 3 85 (w.heap.size + 4) _ _ Tryz.underlying79 hm0
    rw [show (pw w).heap.size = w.heap.size + 1 + 1 + 1 + 1 + 1 + 1 + 1 from by unfold pw; simp] at h
    exact h
  have Q0 := Lib.hid (pw_inv w)
  clear hm0
  refine calls_of_wpF (n := 11) Tryz.func23 rfl ?_
  simp only [Tryz.ntmps23, List.size_toArray, List.length_cons, List.length_nil, Nat.reduceAdd, Nat.reduceSub, Array.replicate_succ, Array.replicate_zero, List.push_toArray, List.append_toArray, List.nil_append, List.cons_append]
  refine wpF_seq_k ?_
  intro K0 hK0
  go_wp2
  refine wpF_seq_k ?_
  intro K1 hK1
  go_wp2_with (first | (go_at_call 44; refine (FmtIns.formats_any _).mono ?_; rintro e w3 ⟨rfl, rfl⟩))
  refine wpF_seq_k ?_
  intro K2 hK2
  go_wp2
  clear hrg hmm
  generalize (pw w).alloc (.mapIter (some (w.heap.size + 4)) 53 #[] 53) = W8 at Q0 ⊢
  simp only [Nat.add_assoc, Nat.reduceAdd]
  go_loopw [6, 7] (fun _ _ wr => ∃ (seen : Array Nat) (c0 : Nat) (es : Array MapEntry) (ec : Nat), QInv w.heap.size w wr seen c0 es ec ∧ 53 ≤ c0 ∧ NamesOf seen es.toList) (fun _ _ wr => leftN (wr.iterSeen (w.heap.size + 7)))
  case atStart => exact ⟨#[], 53, #[], 0, Q0.out, by omega, ⟨fun x hx => (by cases hx), fun k hk hm => (by simp at hm)⟩⟩
  case round =>
    obtain ⟨seen, c0, es, ec, hQ, hc0, hnm⟩ := hrel
    have Q8 := Lib.hid hQ
    have HNM := Lib.hid hnm
    have hborn : (fmtEntries.toArray.toList.map (·.born)) = List.range 53 := fmt_born
    have HB := Lib.hid hborn
    clear hborn hQ hnm Q0
    have hmf := Q8.out.mf
    rw [fm53] at hmf
    have HMF := Lib.hid hmf
    clear hmf
    go_wp2_with (at_next; refine wpList_next_at _ rfl _ rfl rfl Q8.out.it HMF.out (by omega) ?_ hc0 ?_ ?_ ?_)
    · intro x hx
      obtain ⟨k, hk, _, _, hb⟩ := fmt_mem x (by simpa using hx)
      omega
    · rw [HB.out]; exact List.nodup_range
    · intro hall
      have HA := Lib.hid hall
      clear hall
      go_wp2
      refine wpF_seq_k ?_
      intro K3 hK3
      go_wp2
      refine wpF_seq_kF ?_
      intro K4 hK4
      refine wpF_seq_k ?_
      intro K5 hK5
      have QL := Lib.hid (Q8.out.below ((Below.refl wr.heap.size wr).alloc (Nat.le_refl _) (.cells #[.string s] 9)))
      have HSB := Lib.hid (heap_alloc_new wr (.cells #[.string s] 9))
      have HZL : Hid ((wr.alloc (.cells #[.string s] 9)).heap.size = wr.heap.size + 1) := Lib.hid (by simp)
      have HZ8 := Lib.hid Q8.out.z
      go_wp2_with (go_at_call 72; refine (Lines_any s _).mono ?_; rintro e w1 ⟨rfl, rfl⟩)
      refine wpF_block ?_
      generalize wr.alloc (.cells #[.string s] 9) = WL at QL HSB HZL ⊢
      have hall : ∀ k : Nat, k < 53 → k ∈ seen := fun k hk => by
        have h1 : k ∈ (fmtEntries.toArray.toList.map (·.born)) := by rw [HB.out]; simpa using hk
        obtain ⟨x, hx, rfl⟩ := List.mem_map.1 h1
        exact HA.out x hx
      have HALL := Lib.hid hall
      clear hall
      have hzl : WL.heap.size ≤ wr.heap.size + 1 ∧ wr.heap.size + 1 ≤ WL.heap.size := by have := HZL.out; omega
      have hz8 := HZ8.out
      refine wp_rangeLines (q := 8) 9 s (by omega) wr.heap.size rfl HSB.out (PI lineR (readRows lineR (rowsOf s) 0 (codeZ, 0)) w.heap.size (WL.heap.size + 2) w) (PP (readRows lineR (rowsOf s) 0 (codeZ, 0)) w.heap.size w) ?_ ?_ ?_ ?_ ?_ ?_ ?_ ?_ 23 ⟨_, Tryz.func23⟩
      · intro r V o h
        exact h.grown (ap_grownBy_putObj _ _ _) (by omega) (by omega)
      · intro r V v h
        exact h.grown (ap_grownBy_setCell0 _ _ _) (by omega) (by omega)
      · rintro r V ⟨st, n, h1, h2, h3, h6, h4, h5⟩
        exact ⟨st, n, h1, h2, h3, h6, h4.below (Below.refl _ _).drew, h5.drew⟩
      · intro o1 o2
        have hb2 : Below WL.heap.size WL ((WL.alloc o1).alloc o2) := below2 WL o1 o2 (Nat.le_refl _)
        have Q2 := QL.out.below hb2
        exact ⟨(codeZ, 0), 0, HLN.out, rfl, by have := HRL.out; omega, fun x hx => Nat.le_trans (rowsF_size _ _ x hx) (by omega), pst_start Q2 HNM.out HALL.out (by omega) (by simp), ⟨Q2.b, Q2.r2, Q2.r3, Q2.r4, Q2.vp⟩⟩
      · intro row V K hK
        simp only [List.setIfInBounds_toArray, List.set_cons_succ, List.set_cons_zero] at hK ⊢
        gi_wp2_with (rw [Oper.semAt_eq _ _ _ (fun c h => by cases h)]; go_simp; try go_bits)
        exact hK
      · intro row r V hP hlt'
        have HLT := Lib.hid hlt'
        clear hlt'
        obtain ⟨st, n, hl, hres, hn, hrs, hst, hbx⟩ := hP
        simp only [List.setIfInBounds_toArray, List.set_cons_succ, List.set_cons_zero]
        have hrow := hrs row (by simp)
        have HRS := Lib.hid (fun x hx => hrs x (List.mem_cons_of_mem _ hx))
        have HL := Lib.hid hl
        have HRES := Lib.hid hres
        have HST := Lib.hid hst
        have HBX := Lib.hid hbx
        have c4 := cell_of_row V (w.heap.size + 2) 0 _ 3 (0, 0) hbx.r4
        have f4 := frozen_row (j := 0) hbx.r4
        have cv := cell_of_row V (w.heap.size + 6) 0 _ 117 (0, 0) hbx.vp
        rw [List.length_cons] at hn
        clear hrs hl hres hst hbx
        cases hir : isRow row with
        | false =>
          have HIR := Lib.hid hir
          clear hir
          gi_wp2_with (first
            | (refine ⟨trivial, ?_⟩; gi_at_call 73; refine CallsIn.inRound _ (callsIn_wide.2 ((Tryz.strings_CutSuffix row ⟨#[10]⟩ _ (by omega)).mono ?_)); rintro e w1 ⟨rfl, rfl⟩; rw [show Lib.hasSuffix row.data.toList (⟨#[10]⟩ : ByteArray).data.toList = isRow row from rfl, HIR.out])
            | (rw [Oper.semAt_eq _ _ _ (fun c h => by cases h)]; go_simp; try go_bits))
          exact ⟨fun b _ => rfl, .inr ⟨_, rfl, rfl, rfl, n, HRES.out.symm.trans (by rw [readRows, HIR.out]; rfl), HBX.out⟩⟩
        | true =>
          have HIR := Lib.hid hir
          obtain ⟨hok, hnext⟩ := HL.out hir
          have HOK := Lib.hid hok
          have HNX := Lib.hid hnext
          clear hir hok hnext
          have HVV : Hid (Vars w.heap.size V) := Lib.hid (HV.out.later HBX.out.b)
          cases hlr : lineR st (textOf row) with
          | none =>
            have HLR := Lib.hid hlr
            clear hlr
            gi_wp2_with (first
              | (refine ⟨trivial, ?_⟩; gi_at_call 73; refine CallsIn.inRound _ (callsIn_wide.2 ((Tryz.strings_CutSuffix row ⟨#[10]⟩ _ (by omega)).mono ?_)); rintro e w1 ⟨rfl, rfl⟩; rw [show Lib.hasSuffix row.data.toList (⟨#[10]⟩ : ByteArray).data.toList = isRow row from rfl, HIR.out, show (⟨(Lib.trimSuffix row.data.toList (⟨#[10]⟩ : ByteArray).data.toList).toArray⟩ : ByteArray) = textOf row from rfl])
              | (refine ⟨trivial, ?_⟩; gi_at_call 74; refine CallsIn.inRound _ (callsIn_wide.2 ((HOK.out (WL.heap.size + 2) (w.heap.size + 5) (w.heap.size + 3) (w.heap.size + 4) w.heap.size _ HST.out HVV.out (by omega)).mono ?_)); intro e w2 hp; rw [HLR.out] at hp; obtain ⟨rfl, hbx⟩ := hp; have HB2 := Lib.hid hbx; clear hbx; unfold badP)
              | (rw [Oper.semAt_eq _ _ _ (fun c h => by cases h)]; go_simp; try go_bits))
            exact ⟨fun b hb => HB2.out.block b (by omega) (by omega), .inr ⟨_, rfl, rfl, rfl, n, HRES.out.symm.trans (by rw [readRows, HIR.out, HLR.out]; rfl), HBX.out.line HB2.out (by omega)⟩⟩
          | some st' =>
            have HLR := Lib.hid hlr
            clear hlr
            gi_wp2_with (first
              | (refine ⟨trivial, ?_⟩; gi_at_call 73; refine CallsIn.inRound _ (callsIn_wide.2 ((Tryz.strings_CutSuffix row ⟨#[10]⟩ _ (by omega)).mono ?_)); rintro e w1 ⟨rfl, rfl⟩; rw [show Lib.hasSuffix row.data.toList (⟨#[10]⟩ : ByteArray).data.toList = isRow row from rfl, HIR.out, show (⟨(Lib.trimSuffix row.data.toList (⟨#[10]⟩ : ByteArray).data.toList).toArray⟩ : ByteArray) = textOf row from rfl])
              | (refine ⟨trivial, ?_⟩; gi_at_call 74; refine CallsIn.inRound _ (callsIn_wide.2 ((HOK.out (WL.heap.size + 2) (w.heap.size + 5) (w.heap.size + 3) (w.heap.size + 4) w.heap.size _ HST.out HVV.out (by omega)).mono ?_)); intro e w2 hp; rw [HLR.out] at hp; obtain ⟨rfl, hst2, hbx⟩ := hp; have HST2 := Lib.hid hst2; have HB2 := Lib.hid hbx; have HBX2 := Lib.hid (HBX.out.line hbx (by omega)); have d4 := cell_of_row w2 (w.heap.size + 2) 0 _ 3 (0, 0) HBX2.out.r4; have g4 := frozen_row (j := 0) HBX2.out.r4; clear hbx hst2)
              | (rw [Oper.semAt_eq _ _ _ (fun c h => by cases h)]; go_simp; try go_bits))
            rw [show ((n : Int) + 1) = ((n + 1 : Nat) : Int) from rfl]
            exact ⟨fun b hb => (Below.heap_setCell _ _ _ _ (by show b ≠ w.heap.size + 2; omega)).trans (HB2.out.block b (by omega) (by omega)), .inl ⟨rfl, st', n + 1, HNX.out st' HLR.out, by rw [← HRES.out, readRows, HIR.out, HLR.out]; rfl, by omega, HRS.out, HST2.out.grown (ap_grownBy_setCell0 _ _ _) (by omega) (by omega) (by omega) (by omega), HBX2.out.tick⟩⟩
      · rintro V ⟨st, n, _, hres, _, _, hst, hbx⟩ hD
        have HRES := Lib.hid hres
        have HBX := Lib.hid hbx
        have HD := Lib.hid hD
        obtain ⟨v0, v1, v2, v3, v4, v5, v6, sh, b6, hI, hS⟩ := hst
        have HI := Lib.hid hI
        have HS := Lib.hid hS
        clear hres hbx hD hI hS
        have HSA := Lib.hid (HSN.out st HRES.out.symm)
        have HC := Lib.hid (pst_code HI.out HS.out HSA.out)
        obtain ⟨a0, m0, q0, rfl⟩ := own_isSlice (HI.out.rows 0 _ rfl)
        obtain ⟨a1, m1, q1, rfl⟩ := own_isSlice (HI.out.rows 1 _ rfl)
        obtain ⟨a2, m2, q2, rfl⟩ := own_isSlice (HI.out.rows 2 _ rfl)
        obtain ⟨a3, m3, q3, rfl⟩ := own_isSlice (HI.out.rows 3 _ rfl)
        obtain ⟨a4, m4, q4, rfl⟩ := own_isSlice (HI.out.rows 4 _ rfl)
        obtain ⟨a5, m5, q5, rfl⟩ := own_isSlice (HI.out.rows 5 _ rfl)
        obtain ⟨a6, m6, q6, rfl⟩ := own_isSlice (HI.out.rows 6 _ rfl)
        have hbox := HI.out.cells
        have k0 := cell_of_row V (w.heap.size + 5) 0 _ 120 (0, 0) hbox
        have k1 := cell_of_row V (w.heap.size + 5) 1 _ 120 (0, 0) hbox
        have k2 := cell_of_row V (w.heap.size + 5) 2 _ 120 (0, 0) hbox
        have k3 := cell_of_row V (w.heap.size + 5) 3 _ 120 (0, 0) hbox
        have k4 := cell_of_row V (w.heap.size + 5) 4 _ 120 (0, 0) hbox
        have k5 := cell_of_row V (w.heap.size + 5) 5 _ 120 (0, 0) hbox
        have k6 := cell_of_row V (w.heap.size + 5) 6 _ 120 (0, 0) hbox
        have kv := cell_of_row V (w.heap.size + 6) 0 _ 117 (0, 0) HBX.out.vp
        have HLA := Lib.hid (large_at HC.out)
        clear hbox
        have hz7 : w.heap.size + 6 < V.heap.size := (Array.getElem?_eq_some_iff.1 HBX.out.vp).1
        obtain ⟨ce, hce⟩ : ∃ ce, chkErr st.1 (largeC st.1) = ce := ⟨_, rfl⟩
        have HCE := Lib.hid hce
        clear hce
        go_wp2
        refine wpF_of_wp ?_
        by_cases hce0 : ce = 0
        · subst hce0
          go_wp2_with (go_at_call 14; refine (Check_any ⟨⟨a0, m0, q0⟩, ⟨a1, m1, q1⟩, ⟨a2, m2, q2⟩, ⟨a3, m3, q3⟩, ⟨a4, m4, q4⟩, ⟨a5, m5, q5⟩, ⟨a6, m6, q6⟩⟩ st.1 _ HC.out).mono ?_; rintro e w1 ⟨rfl, hb1⟩; rw [show largeB ⟨⟨a0, m0, q0⟩, ⟨a1, m1, q1⟩, ⟨a2, m2, q2⟩, ⟨a3, m3, q3⟩, ⟨a4, m4, q4⟩, ⟨a5, m5, q5⟩, ⟨a6, m6, q6⟩⟩ = largeC st.1 from HLA.out, HCE.out]; generalize chkAt st.1 (largeC st.1) = AT; have B1 := Lib.hid (HBX.out.below hb1); have hbox := (hb1.block _ (by omega)).trans HI.out.cells; have j0 := cell_of_row w1 (w.heap.size + 5) 0 _ 120 (0, 0) hbox; have j1 := cell_of_row w1 (w.heap.size + 5) 1 _ 120 (0, 0) hbox; have j2 := cell_of_row w1 (w.heap.size + 5) 2 _ 120 (0, 0) hbox; have j3 := cell_of_row w1 (w.heap.size + 5) 3 _ 120 (0, 0) hbox; have j4 := cell_of_row w1 (w.heap.size + 5) 4 _ 120 (0, 0) hbox; have j5 := cell_of_row w1 (w.heap.size + 5) 5 _ 120 (0, 0) hbox; have j6 := cell_of_row w1 (w.heap.size + 5) 6 _ 120 (0, 0) hbox; have jv := cell_of_row w1 (w.heap.size + 6) 0 _ 117 (0, 0) B1.out.vp; clear hbox; have f0 : ∀ j, w1.frozen? ⟨w.heap.size, j, none⟩ = false := fun j => frozen_row B1.out.r2; have f3 := frozen_row (j := 0) B1.out.r3; have f4 := frozen_row (j := 0) B1.out.r4; have r3 := cell_of_row w1 (w.heap.size + 1) 0 _ 33 (0, 0) B1.out.r3; have r4 := cell_of_row w1 (w.heap.size + 2) 0 _ 3 (0, 0) B1.out.r4; have r0 := cell_of_row w1 w.heap.size 0 _ 30 (0, 0) B1.out.r2; have r1 := cell_of_row w1 w.heap.size 1 _ 30 (0, 0) B1.out.r2; have r2 := cell_of_row w1 w.heap.size 2 _ 30 (0, 0) B1.out.r2; have s3 := cell_of_row w1 w.heap.size 3 _ 30 (0, 0) B1.out.r2; have s4 := cell_of_row w1 w.heap.size 4 _ 30 (0, 0) B1.out.r2; have s5 := cell_of_row w1 w.heap.size 5 _ 30 (0, 0) B1.out.r2; have s6 := cell_of_row w1 w.heap.size 6 _ 30 (0, 0) B1.out.r2; have HB1 := Lib.hid hb1; clear hb1)
          have HDW : Hid (w1.heap[WL.heap.size]? = some (.deferred (some []))) := Lib.hid ((HB1.out.block _ (Array.getElem?_eq_some_iff.1 HD.out).1).trans HD.out)
          obtain ⟨x2, x3, x4⟩ := fin_cells (.slice a0 m0 q0) (.slice a1 m1 q1) (.slice a2 m2 q2) (.slice a3 m3 q3) (.slice a4 m4 q4) (.slice a5 m5 q5) (.slice a6 m6 q6) (.int .i64 0) (.int .i64 (-1)) B1.out.r2 B1.out.r3 B1.out.r4
          refine leave_done (N := w.heap.size) (D := WL.heap.size) rfl rfl rfl ⟨x2, x3, x4⟩ ((fin_other _ _ _ _ _ _ _ _ _ (by omega) (by omega) (by omega)).trans HDW.out) (by omega) ?_
          rw [← HRES.out]
          refine (if_pos HCE.out).mpr ?_
          exact ⟨⟨⟨a0, m0, q0⟩, ⟨a1, m1, q1⟩, ⟨a2, m2, q2⟩, ⟨a3, m3, q3⟩, ⟨a4, m4, q4⟩, ⟨a5, m5, q5⟩, ⟨a6, m6, q6⟩⟩, rfl, fin_code _ _ _ (HI.out.below HB1.out) (HS.out.below HB1.out) HSA.out (by omega), below_put (fin_below _ _ _ _ _ _ _ _ _ B1.out.b (Nat.le_refl _)) (by omega)⟩
        · go_wp2_with (go_at_call 14; refine (Check_any ⟨⟨a0, m0, q0⟩, ⟨a1, m1, q1⟩, ⟨a2, m2, q2⟩, ⟨a3, m3, q3⟩, ⟨a4, m4, q4⟩, ⟨a5, m5, q5⟩, ⟨a6, m6, q6⟩⟩ st.1 _ HC.out).mono ?_; rintro e w1 ⟨rfl, hb1⟩; rw [show largeB ⟨⟨a0, m0, q0⟩, ⟨a1, m1, q1⟩, ⟨a2, m2, q2⟩, ⟨a3, m3, q3⟩, ⟨a4, m4, q4⟩, ⟨a5, m5, q5⟩, ⟨a6, m6, q6⟩⟩ = largeC st.1 from HLA.out, HCE.out]; generalize chkAt st.1 (largeC st.1) = AT; have B1 := Lib.hid (HBX.out.below hb1); have hbox := (hb1.block _ (by omega)).trans HI.out.cells; have j0 := cell_of_row w1 (w.heap.size + 5) 0 _ 120 (0, 0) hbox; have j1 := cell_of_row w1 (w.heap.size + 5) 1 _ 120 (0, 0) hbox; have j2 := cell_of_row w1 (w.heap.size + 5) 2 _ 120 (0, 0) hbox; have j3 := cell_of_row w1 (w.heap.size + 5) 3 _ 120 (0, 0) hbox; have j4 := cell_of_row w1 (w.heap.size + 5) 4 _ 120 (0, 0) hbox; have j5 := cell_of_row w1 (w.heap.size + 5) 5 _ 120 (0, 0) hbox; have j6 := cell_of_row w1 (w.heap.size + 5) 6 _ 120 (0, 0) hbox; have jv := cell_of_row w1 (w.heap.size + 6) 0 _ 117 (0, 0) B1.out.vp; clear hbox; have f0 : ∀ j, w1.frozen? ⟨w.heap.size, j, none⟩ = false := fun j => frozen_row B1.out.r2; have f3 := frozen_row (j := 0) B1.out.r3; have f4 := frozen_row (j := 0) B1.out.r4; have r3 := cell_of_row w1 (w.heap.size + 1) 0 _ 33 (0, 0) B1.out.r3; have r4 := cell_of_row w1 (w.heap.size + 2) 0 _ 3 (0, 0) B1.out.r4; have r0 := cell_of_row w1 w.heap.size 0 _ 30 (0, 0) B1.out.r2; have r1 := cell_of_row w1 w.heap.size 1 _ 30 (0, 0) B1.out.r2; have r2 := cell_of_row w1 w.heap.size 2 _ 30 (0, 0) B1.out.r2; have s3 := cell_of_row w1 w.heap.size 3 _ 30 (0, 0) B1.out.r2; have s4 := cell_of_row w1 w.heap.size 4 _ 30 (0, 0) B1.out.r2; have s5 := cell_of_row w1 w.heap.size 5 _ 30 (0, 0) B1.out.r2; have s6 := cell_of_row w1 w.heap.size 6 _ 30 (0, 0) B1.out.r2; have HB1 := Lib.hid hb1; clear hb1)
          have HDW : Hid (w1.heap[WL.heap.size]? = some (.deferred (some []))) := Lib.hid ((HB1.out.block _ (Array.getElem?_eq_some_iff.1 HD.out).1).trans HD.out)
          obtain ⟨x2, x3, x4⟩ := fin_cells (.slice none 0 0) (.slice none 0 0) (.slice none 0 0) (.slice none 0 0) (.slice none 0 0) (.slice none 0 0) (.slice none 0 0) (.int .i64 ce) (.int .i64 (-1)) B1.out.r2 B1.out.r3 B1.out.r4
          refine leave_done (N := w.heap.size) (D := WL.heap.size) rfl rfl rfl ⟨x2, x3, x4⟩ ((fin_other _ _ _ _ _ _ _ _ _ (by omega) (by omega) (by omega)).trans HDW.out) (by omega) ?_
          rw [← HRES.out]
          refine (if_neg (by rw [HCE.out]; exact hce0)).mpr ?_
          rw [HCE.out]
          exact ⟨rfl, below_put (fin_below _ _ _ _ _ _ _ _ _ B1.out.b (Nat.le_refl _)) (by omega)⟩
      · rintro ch V ⟨rfl, n, hres, hbx⟩ hD
        refine leave_bad (N := w.heap.size) (D := WL.heap.size) rfl rfl rfl ⟨hbx.r2, hbx.r3, hbx.r4⟩ hD (by omega) ?_
        rw [hres]
        exact ⟨rfl, (set7v_below _ _ _ _ _ _ _ ((hbx.b.grown (ap_grownBy_putObj _ WL.heap.size _) (by have := hbx.b.size; omega) (fun k e => by cases e; omega)).alloc (by have := hbx.b.size; simp; omega) _) (Nat.le_refl _)).setCell (p := ⟨w.heap.size + 1, 0, none⟩) (by show w.heap.size ≤ w.heap.size + 1; omega) _⟩
    · intro e he hns w' hit' hg' hs' hen
      obtain ⟨k, hk, hkey, hval, hbk⟩ := fmt_mem e (by simpa using he)
      rw [hkey, hval] at hen ⊢
      rw [hbk] at hns hit'
      have Q9' := Lib.hid (Q8.out.next hg' hit')
      clear hit' hg' hs' hkey hval hbk he
      go_wp2
      rw [show ((k : Int) + 1) = ((k + 1 : Nat) : Int) from rfl]
      have HX := Lib.hid (heap_alloc_new w' (.cells #[.string (opName (k + 1 : Nat)), .int .i64 (opK0 (k + 1 : Nat)), .int .i64 (opK1 (k + 1 : Nat)), .int .i64 (opK2 (k + 1 : Nat))] 85))
      have Q9 := Lib.hid (Q9'.out.below ((Below.refl w'.heap.size w').alloc (Nat.le_refl _) (.cells #[.string (opName (k + 1 : Nat)), .int .i64 (opK0 (k + 1 : Nat)), .int .i64 (opK1 (k + 1 : Nat)), .int .i64 (opK2 (k + 1 : Nat))] 85)))
      clear Q9' hen
      generalize w'.alloc (.cells #[.string (opName (k + 1 : Nat)), .int .i64 (opK0 (k + 1 : Nat)), .int .i64 (opK1 (k + 1 : Nat)), .int .i64 (opK2 (k + 1 : Nat))] 85) = W9 at HX Q9 ⊢
      generalize w'.heap.size = X at HX ⊢
      refine wp_region_list2 (by kernel_rfl) (by kernel_rfl) (fun _ w' => w' = W9.drew) (fun _ _ _ => True) (P5 w.heap.size X k) rfl (fun _ _ _ _ _ _ hp _ => hp) ?_ ?_
      · refine ⟨?_, ?_, ?_, ?_, ?_, ?_, ?_, trivial⟩
        · intro a' u listed hls hl0 hg hdp hs
          subst hg
          exact op_loadP rfl Tryz.isAgg117 ⟨_, Tryz.underlying117⟩ Tryz.sizeOf117 ((hs.2.2 5 (notDst2 (by kernel_rfl))).trans rfl) (cell_of_row W9.drew (w.heap.size + 6) 0 _ 117 (0, 0) Q9.out.vp) ⟨_, rfl, rfl, trivial, fun h => (by cases h), rfl⟩
        · intro a' u listed hls hl0 hg hdp hs
          subst hg
          exact op_nilCheck rfl (hdp 0 (by kernel_rfl)) ⟨_, rfl, rfl, trivial, fun h => (by cases h), rfl⟩
        · intro a' u listed hls hl0 hg hdp hs
          subst hg
          exact op_parser2 rfl (hdp 1 (by kernel_rfl)) ⟨_, rfl, rfl, trivial, fun h => (by cases h), rfl⟩
        · intro a' u listed hls hl0 hg hdp hs
          subst hg
          exact op_loadP rfl Tryz.isAgg118 ⟨_, Tryz.underlying118⟩ Tryz.sizeOf118 (hdp 2 (by kernel_rfl)) (cell_of_row W9.drew (w.heap.size + 5) 8 _ 120 (0, 0) Q9.out.bp) ⟨_, rfl, rfl, trivial, fun h => (by cases h), rfl⟩
        · intro a' u listed hls hl0 hg hdp hs
          subst hg
          exact op_fieldAddrF rfl ((hs.2.2 7 (notDst2 (by kernel_rfl))).trans rfl) ⟨_, rfl, rfl, trivial, fun h => (by cases h), rfl⟩
        · intro a' u listed hls hl0 hg hdp hs
          subst hg
          exact op_load9 rfl (hdp 4 (by kernel_rfl)) (cell_of_row W9.drew X 0 _ 85 (0, 0) HX.out) ⟨_, rfl, rfl, trivial, fun h => (by cases h), rfl⟩
        · intro a' u listed hls hl0 hg hdp hs
          subst hg
          exact op_move rfl ((hs.2.2 6 (notDst2 (by kernel_rfl))).trans rfl) ⟨_, rfl, rfl, trivial, fun h => (by cases h), rfl⟩
      · intro o ho' a' u listed hg hp hs
        obtain rfl := Option.some.inj ho'
        subst hg
        have p3 := hp 3 (by decide)
        have p5 := hp 5 (by decide)
        have p6 := hp 6 (by decide)
        have HM9 := Lib.hid (run_insert_str Tryz.underlying118 Tryz.underlying9 W9.drew Q9.out.mo (opName (k + 1 : Nat)) (.int .i64 (k + 1 : Nat)) (HNM.out.fresh hk hns))
        refine op_mapUpdate118 rfl p3 p5 p6 HM9.out ?_
        have ha := act_all hs [27, 28, 29, 30, 31, 32, 33] (by kernel_rfl) (by kernel_rfl)
        simp only [List.map_cons, List.map_nil] at ha
        generalize a'.tmps.getD 27 undef = t27 at ha
        generalize a'.tmps.getD 28 undef = t28 at ha
        generalize a'.tmps.getD 29 undef = t29 at ha
        generalize a'.tmps.getD 30 undef = t30 at ha
        generalize a'.tmps.getD 31 undef = t31 at ha
        generalize a'.tmps.getD 32 undef = t32 at ha
        generalize a'.tmps.getD 33 undef = t33 at ha
        clear hp p3 p5 p6 HM9
        change Exit.inBlock _ _ .normal a' _
        rw [ha]
        simp only [List.foldl_cons, List.foldl_nil, Act.put, List.setIfInBounds_toArray, List.set_cons_succ, List.set_cons_zero]
        clear ha hs
        have Q10 := Lib.hid ((Q9.out.below (Below.refl _ _).drew).put (es' := es.push { key := .string (opName (k + 1 : Nat)), val := .int .i64 (k + 1 : Nat), born := ec }) (ec' := ec + 1))
        have HN10 := Lib.hid (HNM.out.push (c := ec) hk)
        go_wp2
        go_roundw
        case rel => exact ⟨seen.push k, 53, _, _, Q10.out, by omega, HN10.out⟩
        case measure => rw [iter_of Q10.out.it, iter_of Q8.out.it]; exact leftN_push seen k hk hns
end Go.Proofs.YtmfnholhhakgaaaGreatDoor
