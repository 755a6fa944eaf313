/- Parse's deferred function; a walk that knows its frame's function; a range over lines; the state of Parse. -/
import Derived.Test.YtmfnholhhakgaaaGreatDoorMgb
import Derived.Test.YtmfnholhhakgaaaGreatDoorMhl
import Derived.RecoverIn
import Derived.WalkLawsBesides
import Derived.RangeFuncLeaves
import Derived.Test.YtmfnholhhakgaaaGreatDoorMho
section
namespace Go.Proofs.YtmfnholhhakgaaaGreatDoor
open Go Go.Proofs Go.RowKit Go.Sort
set_option maxRecDepth 100000

set_option maxHeartbeats 1000000 in
/-- The panic of a line that does not fit: it is taken; the code's result is empty, the error is ErrForm. -/
theorem catch_bad (m N : Nat) (a0 a1 a2 a3 a4 a5 a6 e0 : Value) (w : World) (hc : w.heap[N]? = some (.cells #[a0, a1, a2, a3, a4, a5, a6] 30 (0, 0))) (he : w.heap[N + 1]? = some (.cells #[e0] 33 (0, 0))) :
    CallsDIn Fence.wide m Tryz.prog 71 #[.pointer (some ⟨N, 0, none⟩), .pointer (some ⟨N + 1, 0, none⟩)] (.panicking ({ v := .iface 122 (.agg #[]), recovered := false } :: [])) w fun e u' w' =>
      e = .returned (.tuple #[]) ∧ u' = .panicking ({ v := .iface 122 (.agg #[]), recovered := true } :: []) ∧ w' = (set7v (w.alloc (.cells #[] 122)) N (.slice none 0 0) (.slice none 0 0) (.slice none 0 0) (.slice none 0 0) (.slice none 0 0) (.slice none 0 0) (.slice none 0 0)).setCell ⟨N + 1, 0, none⟩ (.int .i64 7) := by
  have hta : ∀ w, (Instr.typeAssert (.iface 122 (.agg #[])) 20 122 true).run Tryz.prog w = .ok (.tuple #[.agg #[], .bool true]) w := fun w => by kernel_rfl
  have hc' := ((Below.refl w.heap.size w).alloc (Nat.le_refl _) (.cells #[] 122)).block N (Array.getElem?_eq_some_iff.1 hc).1
  have he' := ((Below.refl w.heap.size w).alloc (Nat.le_refl _) (.cells #[] 122)).block (N + 1) (Array.getElem?_eq_some_iff.1 he).1
  have HC := Lib.hid (hc'.trans hc)
  have HE := Lib.hid (he'.trans he)
  have hN := (Array.getElem?_eq_some_iff.1 he).1
  clear hc he hc' he'
  have q0 := cell_of_row _ N 0 _ _ _ HC.out
  have q1 := cell_of_row _ N 1 _ _ _ HC.out
  have q2 := cell_of_row _ N 2 _ _ _ HC.out
  have q3 := cell_of_row _ N 3 _ _ _ HC.out
  have q4 := cell_of_row _ N 4 _ _ _ HC.out
  have q5 := cell_of_row _ N 5 _ _ _ HC.out
  have q6 := cell_of_row _ N 6 _ _ _ HC.out
  have qf : ∀ j, (w.alloc (.cells #[] 122)).frozen? ⟨N, j, none⟩ = false := fun j => frozen_row HC.out
  have q7 := cell_of_row _ (N + 1) 0 _ _ _ HE.out
  have qg := frozen_row (j := 0) HE.out
  refine callsDIn_of_wpSIn Tryz.func71 rfl trivial fun c₀ cs hu => ?_
  apply wpSIn_seq
  apply wpSIn_region
  simp [wpOpsSIn, Fence.wide, go_sem, recoverD, hu, Tryz.ntmps71, Exit.thenS]
  apply wpSIn_seq
  apply wpSIn_region
  simp [wpOpsSIn, go_sem, Exit.thenS]
  refine wpSIn_cond (t := true) (by simp [Act.eval, Array.replicate]) ?_
  simp only [if_true]
  refine wpSIn_of_wpIn rfl (wpIn_wide.2 ?_)
  simp only [Array.replicate_succ, Array.replicate_zero, List.push_toArray, List.append_toArray, List.nil_append, List.cons_append, List.setIfInBounds_toArray, List.set_cons_succ, List.set_cons_zero]
  go_wp2
  exact ⟨rfl, _, rfl, _, results_none rfl _ _ _, rfl, rfl, rfl⟩

/-- No panic: the function does nothing. -/
theorem catch_idle (m : Nat) (A B : Addr) (w : World) :
    CallsDIn Fence.wide m Tryz.prog 71 #[.pointer (some A), .pointer (some B)] .returning w fun e u' w' => e = .returned (.tuple #[]) ∧ u' = .returning ∧ w' = w := by
  refine callsDIn_of_wpSIn Tryz.func71 rfl trivial fun c₀ cs hu => ?_
  apply wpSIn_seq
  apply wpSIn_region
  simp [wpOpsSIn, Fence.wide, go_sem, recoverD, hu, Tryz.ntmps71, Exit.thenS]
  apply wpSIn_seq
  apply wpSIn_region
  simp [wpOpsSIn, go_sem, Exit.thenS]
  refine wpSIn_cond (t := false) (by simp [Act.eval, Array.replicate]) ?_
  simp only [Bool.false_eq_true, if_false]
  refine wpSIn_of_wpIn rfl (wpIn_wide.2 (wp_skip ?_))
  cases c₀
  simp_all [bodyPostS, results, Tryz.results71]
end Go.Proofs.YtmfnholhhakgaaaGreatDoor
end
section
namespace Go.Proofs.YtmfnholhhakgaaaGreatDoor
open Go Go.Proofs

/-- The weakest precondition of code in a frame of function f, no round's. -/
def wpF (f : FuncId) (_n : Nat) (P : Program) (c : Code) (Q : Exit → Act → World → Prop) (a : Act) (w : World) : Prop :=
  ∀ (b : Frame) (k : List Item) (cs : List Frame), b.roundOf = none → b.fn = f →
    ∃ e a' w', Q e a' w' ∧ ArrivesIn (Machine.fenced P Fence.wide) P (lone (b.atR a (.code c :: k)) cs w) b k cs e a' w'
section
variable {f : FuncId} {n : Nat} {P : Program} {Q : Exit → Act → World → Prop} {a : Act} {w : World}
theorem wpF_of_wp {c : Code} (h : c.wp P Q a w) : wpF f n P c Q a w := fun b k cs hro _ => (wpIn_wide (n := 0)).2 h b k cs hro trivial (room_wide _)
theorem wpF_seq {x y : Code} (h : wpF f n P x (Exit.then (wpF f n P y Q) Q) a w) : wpF f n P (Code.seq x y) Q a w := by
  intro b k cs hro hb
  have h0 : (lone (b.atR a (.code (.seq x y) :: k)) cs w).fenced P Fence.wide := fenced_calm (n := 0) trivial (room_wide _) rfl
  obtain ⟨e, a₁, w₁, hq, harr⟩ := h b (.code y :: k) cs hro hb
  cases e with
  | normal =>
    obtain ⟨e₂, a₂, w₂, hq₂, harr₂⟩ := hq b k cs hro hb
    exact ⟨e₂, a₂, w₂, hq₂, .of_steps (.head h0 stepR_seq harr) harr₂⟩
  | exit id => exact ⟨_, a₁, w₁, hq, .of_steps (.one h0 stepR_seq) (.pass (x := .code y) rfl (fun _ _ => .inl (by simp)) harr)⟩
  | goto l => exact ⟨_, a₁, w₁, hq, .of_steps (.one h0 stepR_seq) (.pass (x := .code y) rfl (fun _ _ => .inl (by simp)) harr)⟩
  | ret => exact ⟨_, a₁, w₁, hq, .of_steps (.one h0 stepR_seq) (.pass (x := .code y) rfl (fun _ _ => .inl (by simp)) harr)⟩
  | panic ch => exact ⟨_, a₁, w₁, hq, .of_steps (.one h0 stepR_seq) (.pass (x := .code y) rfl (fun _ _ => .inl (by simp)) harr)⟩
  | outgrown => exact ⟨_, a₁, w₁, hq, .of_steps (.one h0 stepR_seq) (.pass (x := .code y) rfl (fun _ _ => .inl (by simp)) harr)⟩
/-- The first part walked as ever. -/
theorem wpF_seq_k {x y : Code} (h : ∀ K : Act → World → Prop, (∀ a w, wpF f n P y Q a w → K a w) → x.wp P (Exit.then K Q) a w) : wpF f n P (Code.seq x y) Q a w :=
  wpF_seq (wpF_of_wp (h _ fun _ _ h => h))
theorem wpF_seq_kF {x y : Code} (h : ∀ K : Act → World → Prop, (∀ a w, wpF f n P y Q a w → K a w) → wpF f n P x (Exit.then K Q) a w) : wpF f n P (Code.seq x y) Q a w :=
  wpF_seq (h _ fun _ _ h => h)
theorem wpF_block {id : Nat} {c : Code} (h : wpF f n P c (Exit.inBlock id Q) a w) : wpF f n P (Code.block id c) Q a w := by
  intro b k cs hro hb
  have h0 : (lone (b.atR a (.code (.block id c) :: k)) cs w).fenced P Fence.wide := fenced_calm (n := 0) trivial (room_wide _) rfl
  obtain ⟨e, a₁, w₁, hq, harr⟩ := h b (.inBlock id :: k) cs hro hb
  cases e with
  | normal => exact ⟨.normal, a₁, w₁, hq, .head h0 stepR_block (StepsIn.trans harr (.one (fenced_calm (n := 0) trivial (room_wide _) rfl) stepR_inBlock))⟩
  | exit id' =>
    by_cases hid : id' = id
    · simp only [Exit.inBlock, hid, if_true] at hq
      exact ⟨.normal, a₁, w₁, hq, .head h0 stepR_block (harr.1 k (by simp [exitTo, hid]))⟩
    · simp only [Exit.inBlock, hid, if_false] at hq
      have this : (id == id') = false := by simp; exact fun h => hid h.symm
      have hx : exitTo id' (.inBlock id :: k) = exitTo id' k := by simp [exitTo, this]
      exact ⟨.exit id', a₁, w₁, hq, fun k' hk => .head h0 stepR_block (harr.1 k' (by rw [hx]; exact hk)),
        fun hr' hk => let ⟨k₁, h1, h2⟩ := harr.2 hr' (by rw [hx]; exact hk); ⟨k₁, h1, .head h0 stepR_block h2⟩⟩
  | goto l =>
    have hx : gotoIn l (.inBlock id :: k) = gotoIn l k := by simp [gotoIn]
    exact ⟨_, a₁, w₁, hq, fun k' hk => .head h0 stepR_block (harr.1 k' (by rw [hx]; exact hk)),
      fun hr' hk => let ⟨k₁, h1, h2⟩ := harr.2 hr' (by rw [hx]; exact hk); ⟨k₁, h1, .head h0 stepR_block h2⟩⟩
  | ret => exact ⟨_, a₁, w₁, hq, .of_steps (.one h0 stepR_block) harr⟩
  | panic ch => exact ⟨_, a₁, w₁, hq, .of_steps (.one h0 stepR_block) harr⟩
  | outgrown => exact ⟨_, a₁, w₁, hq, .of_steps (.one h0 stepR_block) harr⟩

/-- A range over a function: the loop's record bears the frame's own function. -/
theorem wpF_rangeFunc {g : Operand} {ps : Array Tmp} {assign body : Code}
    (h : ∃ (l : Nat) (mark : List Deferred) (w₁ : World) (d : Deferred) (w₁' : World) (h : FuncId) (args : Array Value) (w₂ : World),
      (Instr.enterLoop f a.tmps ps assign body none).run P w = .ok (l, mark) w₁ ∧
      (resolve a.eval (rangeCall g l) 0).run P w₁ = .ok d w₁' ∧
      (invoke d.target d.args).run P w₁' = .ok (.enter h args) w₂ ∧
      CallsIn Fence.wide n P h args w₂ (rangePost Fence.wide (n + 1) P l Q { a with defers := mark ++ a.defers })) :
    wpF f (n + 1) P (Code.rangeFunc g ps assign body) Q a w := by
  intro b k cs hro hb
  obtain ⟨l, mark, w₁, d, w₁', f', args, w₂, he, hres, hinv, hF, hcall⟩ := h
  rw [← hro, ← hb] at he
  have h0 : (lone (b.atR a (.code (.rangeFunc g ps assign body) :: k)) cs w).fenced P Fence.wide := fenced_wide _ _
  have henter := stepR_rangeFunc (P := P) (b := b) (a := a) (k := k) (cs := cs) (w := w) he hres hinv
  have hroom : Fence.wide.room ((b.atR { a with defers := mark ++ a.defers } (.inRangeFunc l :: k) :: cs).length + 1 + n) := room_wide _
  obtain ⟨e, w₃, fr, hR, hsteps, hfn, hleave⟩ := hcall (b.atR { a with defers := mark ++ a.defers } (.inRangeFunc l :: k) :: cs) hroom
  cases e with
  | outgrown =>
    obtain ⟨a₀, w₀, hq⟩ := hR
    exact ⟨.outgrown, a₀, w₀, hq, .inr (Outgrown.of_steps (.one henter) hsteps)⟩
  | returned v =>
    have hl : (lone fr (b.atR { a with defers := mark ++ a.defers } (.inRangeFunc l :: k) :: cs) w₃).fenced P Fence.wide := fenced_wide _ _
    obtain ⟨jump, w₄, hend, hj⟩ := hR
    have sback : StepsIn (Machine.fenced P Fence.wide) P (lone (b.atR a (.code (.rangeFunc g ps assign body) :: k)) cs w) (lone (b.atR { a with defers := mark ++ a.defers } ((jump.map Item.code).toList ++ k)) cs w₄) := by
      refine .head h0 henter (StepsIn.trans hsteps (.head hl ?_ (.one (fenced_wide _ _) (stepR_endRangeFunc hend))))
      rw [← finish_atR_inRangeFunc l v]; exact step_leave_returned hleave
    cases jump with
    | none => exact ⟨.normal, _, w₄, hj, sback⟩
    | some c =>
      obtain ⟨e', a'', w₅, hq, harr⟩ := hj b k cs hro trivial (room_wide _)
      exact ⟨e', a'', w₅, hq, .of_steps sback harr⟩
  | panicked chain =>
    have hl : (lone fr (b.atR { a with defers := mark ++ a.defers } (.inRangeFunc l :: k) :: cs) w₃).fenced P Fence.wide := fenced_wide _ _
    refine ⟨.panic chain, _, w₃, hR, .inRangeFunc l :: k, .head h0 henter (StepsIn.trans hsteps (.one hl ?_))⟩
    rw [← Frame.raise_atR]; exact step_leave_panicked hleave
/-- A function's contract from its body, where the body holds a range over a function, and defers. -/
theorem calls_of_wpF {fn : Func} {c : Code} {args : Array Value} {R : Ending → World → Prop}
    (hf : P.funcs[f]? = some fn) (hb : fn.body = some c)
    (h : wpF f n P c (bodyPostM Fence.wide n P fn R) { tmps := args ++ Array.replicate (fn.ntmps - args.size) undef, defers := [] } w) : Calls P f args w R := by
  refine (callsIn_wide (n := n)).1 ⟨trivial, fun cs hr => ?_⟩
  let b : Frame := { (default : Frame) with fn := f, kind := .normal, roundOf := none }
  have henter : Frame.enter P f args .normal =
      b.atR { tmps := args ++ Array.replicate (fn.ntmps - args.size) undef, defers := [] } [.code c] := by
    simp [Frame.enter, Frame.atR, hf, hb, b]
  obtain ⟨e, a', w', hq, harr⟩ := h b [] cs rfl rfl
  rw [← henter] at harr
  cases e with
  | normal =>
    obtain ⟨e', w'', fr', hR, hs, hfn, hl⟩ := leaves_stepsInM a'.defers .returning w' { b.atR a' [] with mode := .returning } cs rfl rfl rfl hf rfl trivial hr hq
    exact ⟨e', w'', fr', hR, ComesIn.of_steps (StepsIn.trans harr (.one (fenced_wide _ _) (stepR_end rfl))) hs, hfn, hl⟩
  | ret =>
    obtain ⟨todo, hs₀⟩ := harr.1 rfl
    obtain ⟨e', w'', fr', hR, hs, hfn, hl⟩ := leaves_stepsInM a'.defers .returning w' { b.atR a' todo with mode := .returning } cs rfl rfl rfl hf rfl trivial hr hq
    exact ⟨e', w'', fr', hR, ComesIn.of_steps hs₀ hs, hfn, hl⟩
  | panic chain =>
    obtain ⟨todo, hs₀⟩ := harr
    obtain ⟨e', w'', fr', hR, hs, hfn, hl⟩ := leaves_stepsInM a'.defers (.panicking chain) w' { b.atR a' todo with mode := .panicking chain } cs rfl rfl rfl hf rfl trivial hr hq
    exact ⟨e', w'', fr', hR, ComesIn.of_steps hs₀ hs, hfn, hl⟩
  | exit id => exact hq.elim
  | goto l => exact hq.elim
  | outgrown => exact ⟨.outgrown, w', b, hq, harr.resolve_left (by simp [b]), rfl, trivial⟩
end
end Go.Proofs.YtmfnholhhakgaaaGreatDoor
end
section
namespace Go.Proofs.YtmfnholhhakgaaaGreatDoor
open Go Go.Proofs Go.RowKit Go.Sort

theorem enters123 : Enters 123 := enters_of Tryz.func123 (by kernel_rfl) rfl
theorem Lines_any (s : ByteArray) (w : World) : Calls Tryz.prog 72 #[.string s] w fun e w' => e = .returned (.func (.func 123) #[] #[.pointer (some ⟨w.heap.size, 0, none⟩)]) ∧ w' = w.alloc (.cells #[.string s] 9) := by
  go_enter Tryz.func72, Tryz.ntmps72
  go_wp2
  go_ret
  exact ⟨rfl, rfl⟩

/-- The loop's record; the state and the jump apart. -/
def rlRec (fn : FuncId) (A : Array Value) (p : Tmp) (assign body : Code) (D : Nat) (st : LoopState) (pend : Option Code) : Loop :=
  { state := st, pending := pend, fn, tmps := A, params := #[p], assign, body, defers := D }
/-- How a round's body ends: the iterator's and the loop's blocks as they were. -/
def rlPost (Sb D : Nat) (I : World → Prop) (Ip : List PanicEntry → World → Prop) (V : World) (e : Exit) (a : Act) (V' : World) : Prop :=
  (∀ b, b = Sb ∨ b = D ∨ b = D + 1 → V'.heap[b]? = V.heap[b]?) ∧ ((e = .normal ∧ I V') ∨ ∃ ch, e = .panic ch ∧ a.defers = [] ∧ Ip ch V')
theorem wp_rangeLines (m : Nat) {assign body : Code} {t0 : Nat} {p q : Tmp} {Q : Exit → Act → World → Prop} {a : Act} {W : World} (s : ByteArray) (hs : s.size ≤ 1000000000) (Sb : Nat) (hg : a.tmps.getD t0 undef = .func (.func 123) #[] #[.pointer (some ⟨Sb, 0, none⟩)]) (hSb : W.heap[Sb]? = some (.cells #[.string s] 9 (0, 0)))
    (I : List ByteArray → World → Prop) (Ip : List PanicEntry → World → Prop)
    (hI : ∀ r V o, I r V → I r (V.putObj (W.heap.size + 1) o)) (hIs : ∀ r V v, I r V → I r (V.setCell ⟨Sb, 0, none⟩ v)) (hId : ∀ r V, I r V → I r V.drew)
    (h0 : ∀ o1 o2, I (rowsOf s) ((W.alloc o1).alloc o2))
    (hassign : ∀ row V (K : Exit → Act → World → Prop), K .normal { tmps := (a.tmps.setIfInBounds p (.string row)).setIfInBounds q (.string row), defers := [] } V → assign.wpIn (Fence.wide.inRound (W.heap.size + 1)) m Tryz.prog K { tmps := a.tmps.setIfInBounds p (.string row), defers := [] } V)
    (hbody : ∀ row r V, I (row :: r) V → W.heap.size + 1 < V.heap.size → body.wpIn (Fence.wide.inRound (W.heap.size + 1)) m Tryz.prog (rlPost Sb W.heap.size (I r) Ip V) { tmps := (a.tmps.setIfInBounds p (.string row)).setIfInBounds q (.string row), defers := [] } V)
    (hdone : ∀ V, I [] V → V.heap[W.heap.size]? = some (.deferred (some [])) → Q .normal { a with defers := { target := .collected W.heap.size, args := #[] } :: a.defers } V)
    (hpanic : ∀ ch V, Ip ch V → V.heap[W.heap.size]? = some (.deferred (some [])) → Q (.panic ch) { a with defers := { target := .collected W.heap.size, args := #[] } :: a.defers } V)
    (fn : FuncId) (hfn : ∃ f, Tryz.prog.funcs[fn]? = some f) :
    wpF fn (m + 2) Tryz.prog (Code.rangeFunc (.tmp t0) #[p] assign body) Q a W := by
  refine wpF_rangeFunc ?_
  obtain ⟨W1, hW1⟩ : ∃ W1, (W.alloc (.deferred (some []))).alloc (.loop (rlRec fn a.tmps p assign body W.heap.size .ready none)) = W1 := ⟨_, rfl⟩
  have hSlt := (Array.getElem?_eq_some_iff.1 hSb).1
  have hold : ∀ k, k < W.heap.size → W1.heap[k]? = W.heap[k]? := fun k hk => by
    rw [← hW1]; exact (Below.heap_alloc _ _ k (by simp; omega)).trans (Below.heap_alloc _ _ k hk)
  have hs1 : W1.heap.size = W.heap.size + 2 := by rw [← hW1]; simp
  have hL1 : W1.heap[W.heap.size + 1]? = some (.loop (rlRec fn a.tmps p assign body W.heap.size .ready none)) := by
    rw [← hW1]
    have := World.alloc_heap_new (W.alloc (.deferred (some []))) (.loop (rlRec fn a.tmps p assign body W.heap.size .ready none))
    rwa [World.size_alloc] at this
  have hK1 : W1.heap[W.heap.size]? = some (.deferred (some [])) := by rw [← hW1]; exact (Below.heap_alloc _ _ _ (by simp)).trans (World.alloc_heap_new W _)
  have hI1 : I (rowsOf s) W1 := by rw [← hW1]; exact h0 _ _
  refine ⟨W.heap.size + 1, [{ target := .collected W.heap.size, args := #[] }], W1, { target := .fn (.func 123) #[.pointer (some ⟨Sb, 0, none⟩)], args := #[.func (.yield (W.heap.size + 1)) #[] #[]] }, W1, 123,
    #[.func (.yield (W.heap.size + 1)) #[] #[]] ++ #[.pointer (some ⟨Sb, 0, none⟩)], W1, ?_, ?_, ?_, ?_⟩
  · rw [← hW1]; exact run_enterLoop_outer _ _ _ _ _
  · have hg2 : a.tmps[t0]?.getD undef = .func (.func 123) #[] #[.pointer (some ⟨Sb, 0, none⟩)] := by simpa using hg
    simp [resolve, go_sem, hg2]
  · simp [invoke, go_sem, enters123 _ _]
  · refine callsIn_wide.2 ((linesIt_any (W.heap.size + 1) Sb m s W1 hs ((hold Sb hSlt).trans hSb)
      (fun r V => I r V ∧ V.heap[W.heap.size + 1]? = some (.loop (rlRec fn a.tmps p assign body W.heap.size .ready none)) ∧ V.heap[W.heap.size]? = some (.deferred (some [])))
      (fun ch V => Ip ch V ∧ V.heap[W.heap.size]? = some (.deferred (some []))) ?_ ?_ ?_ ⟨hI1, hL1, hK1⟩).mono ?_)
    · rintro r V t t' ⟨h1, h2, h3⟩ _
      exact ⟨hIs _ _ _ h1, (Below.heap_setCell _ _ _ _ (by show W.heap.size + 1 ≠ Sb; omega)).trans h2, (Below.heap_setCell _ _ _ _ (by show W.heap.size ≠ Sb; omega)).trans h3⟩
    · rintro r V ⟨h1, h2, h3⟩
      exact ⟨hId _ _ h1, h2, h3⟩
    · rintro row r V ⟨h1, h2, h3⟩ hSV
      have hlt := (Array.getElem?_eq_some_iff.1 h2).1
      refine ⟨fn, a.tmps.setIfInBounds p (.string row), assign, body, by simpa [rlRec] using run_yield (P := Tryz.prog) (args := #[.string row]) h2 rfl, roundIn_of_wpIn_panic trivial ?_⟩
      refine hassign row V _ ?_
      have hbr := run_beginRound (P := Tryz.prog) h2 rfl
      refine ⟨_, hbr, ?_⟩
      have hL2 : (V.putObj (W.heap.size + 1) (.loop { rlRec fn a.tmps p assign body W.heap.size .ready none with state := .busy })).heap[W.heap.size + 1]? = some (.loop { rlRec fn a.tmps p assign body W.heap.size .ready none with state := .busy }) := World.putObj_heap_same hlt
      have hK2 : (V.putObj (W.heap.size + 1) (.loop { rlRec fn a.tmps p assign body W.heap.size .ready none with state := .busy })).heap[W.heap.size]? = some (.deferred (some [])) := (World.putObj_heap_other (by omega)).trans h3
      have hS2 : (V.putObj (W.heap.size + 1) (.loop { rlRec fn a.tmps p assign body W.heap.size .ready none with state := .busy })).heap[Sb]? = V.heap[Sb]? := World.putObj_heap_other (by omega)
      refine wpIn_mono (hbody row r _ (hI _ _ _ h1) (Array.getElem?_eq_some_iff.1 hL2).1) ?_
      rintro e a₂ V' ⟨hk, ⟨rfl, hIr⟩ | ⟨ch, rfl, hd, hIp⟩⟩
      · have hL3 := (hk _ (.inr (.inr rfl))).trans hL2
        have hK3 := (hk _ (.inr (.inl rfl))).trans hK2
        have hS3 := (hk _ (.inl rfl)).trans hS2
        have hlt3 := (Array.getElem?_eq_some_iff.1 hL3).1
        exact ⟨_, _, run_endRound none hL3, .inl ⟨rfl, ⟨hI _ _ _ hIr, World.putObj_heap_same hlt3, (World.putObj_heap_other (by omega)).trans hK3⟩, (World.putObj_heap_other (by omega)).trans hS3⟩⟩
      · have hK3 := (hk _ (.inr (.inl rfl))).trans hK2
        exact ⟨hd, hfn, .inr ⟨ch, rfl, hIp, hK3⟩⟩
    · rintro e V (⟨v, rfl, h1, h2, h3⟩ | ⟨ch, rfl, h1, h3⟩)
      · have hend := run_endLoop (P := Tryz.prog) h2 (by simp [rlRec])
        exact ⟨none, _, hend, hdone _ (hI _ _ _ h1) ((World.putObj_heap_other (by omega)).trans h3)⟩
      · exact hpanic ch V h1 h3
end Go.Proofs.YtmfnholhhakgaaaGreatDoor
end
section
namespace Go.Proofs.YtmfnholhhakgaaaGreatDoor
open Go Go.Proofs Go.RowKit Go.Sort
set_option maxRecDepth 100000

/-- The world when the map's range begins. -/
def pw (w : World) : World := ((((((w.alloc (.cells #[.slice none 0 0, .slice none 0 0, .slice none 0 0, .slice none 0 0, .slice none 0 0, .slice none 0 0, .slice none 0 0] 30)).alloc (.cells #[.int .i64 0] 33)).alloc (.cells #[.int .i64 0] 3)).alloc (.map #[] 0)).alloc (fm 53)).alloc (.cells #[.slice none 0 0, .slice none 0 0, .slice none 0 0, .slice none 0 0, .slice none 0 0, .slice none 0 0, .slice none 0 0, .int .i64 0, .map (some (w.heap.size + 1 + 1 + 1)), .map (some (w.heap.size + 1 + 1 + 1 + 1))] 120)).alloc (.cells #[.pointer (some ⟨w.heap.size + 1 + 1 + 1 + 1 + 1, 0, none⟩)] 117)
/-- While the map of names is being made: N: the first block that Parse has made. -/
structure QInv (N : Nat) (w wr : World) (seen : Array Nat) (c0 : Nat) (es : Array MapEntry) (ec : Nat) : Prop where
  b : Below N w wr
  z : N + 8 ≤ wr.heap.size
  r2 : wr.heap[N]? = some (.cells #[.slice none 0 0, .slice none 0 0, .slice none 0 0, .slice none 0 0, .slice none 0 0, .slice none 0 0, .slice none 0 0] 30 (0, 0))
  r3 : wr.heap[N + 1]? = some (.cells #[.int .i64 0] 33 (0, 0))
  r4 : wr.heap[N + 2]? = some (.cells #[.int .i64 0] 3 (0, 0))
  mo : wr.heap[N + 3]? = some (.map es ec)
  mf : wr.heap[N + 4]? = some (fm 53)
  bp : wr.heap[N + 5]? = some (.cells #[.slice none 0 0, .slice none 0 0, .slice none 0 0, .slice none 0 0, .slice none 0 0, .slice none 0 0, .slice none 0 0, .int .i64 0, .map (some (N + 3)), .map (some (N + 4))] 120 (0, 0))
  vp : wr.heap[N + 6]? = some (.cells #[.pointer (some ⟨N + 5, 0, none⟩)] 117 (0, 0))
  it : wr.heap[N + 7]? = some (.mapIter (some (N + 4)) 53 seen c0)
theorem heap_two (w : World) (o p : Obj) : ((w.alloc o).alloc p).heap[w.heap.size]? = some o := (Below.heap_alloc _ _ _ (by simp)).trans (heap_alloc_new w o)
theorem pw_inv (w : World) : QInv w.heap.size w ((pw w).alloc (.mapIter (some (w.heap.size + 4)) 53 #[] 53)) #[] 53 #[] 0 := by
  have hb : ∀ (v : World) (o : Obj) (k : Nat) (x : Obj), v.heap[k]? = some x → (v.alloc o).heap[k]? = some x := fun v o k x h => (Below.heap_alloc _ _ _ (Array.getElem?_eq_some_iff.1 h).1).trans h
  have hn : ∀ (v : World) (o : Obj) (k : Nat), v.heap.size = k → (v.alloc o).heap[k]? = some o := fun v o k h => h ▸ heap_alloc_new v o
  unfold pw
  refine ⟨?_, by simp, ?_, ?_, ?_, ?_, ?_, ?_, ?_, ?_⟩
  · exact ((((((((Below.refl _ w).alloc (Nat.le_refl _) _).alloc (by simp) _).alloc (by simp; omega) _).alloc (by simp; omega) _).alloc (by simp; omega) _).alloc (by simp; omega) _).alloc (by simp; omega) _).alloc (by simp; omega) _
  · exact hb _ _ _ _ (hb _ _ _ _ (hb _ _ _ _ (hb _ _ _ _ (hb _ _ _ _ (hb _ _ _ _ (hb _ _ _ _ (hn _ _ _ rfl)))))))
  · exact hb _ _ _ _ (hb _ _ _ _ (hb _ _ _ _ (hb _ _ _ _ (hb _ _ _ _ (hb _ _ _ _ (hn _ _ _ (by simp)))))))
  · exact hb _ _ _ _ (hb _ _ _ _ (hb _ _ _ _ (hb _ _ _ _ (hb _ _ _ _ (hn _ _ _ (by simp))))))
  · exact hb _ _ _ _ (hb _ _ _ _ (hb _ _ _ _ (hb _ _ _ _ (hn _ _ _ (by simp)))))
  · exact hb _ _ _ _ (hb _ _ _ _ (hb _ _ _ _ (hn _ _ _ (by simp))))
  · exact hb _ _ _ _ (hb _ _ _ _ (hn _ _ _ (by simp)))
  · exact hb _ _ _ _ (hn _ _ _ (by simp))
  · exact hn _ _ _ (by simp)
theorem iter_of {w : World} {r : Nat} {m : Option Nat} {since : Nat} {seen : Array Nat} {c0 : Nat} (h : w.heap[r]? = some (.mapIter m since seen c0)) : w.iterSeen r = seen := by
  unfold World.iterSeen
  rw [h]
theorem QInv.next {N : Nat} {w wr w' : World} {seen : Array Nat} {c0 : Nat} {es : Array MapEntry} {ec k c1 : Nat} (Q : QInv N w wr seen c0 es ec) (hg : wr.grownBy w' (some (N + 7))) (hit : w'.heap[N + 7]? = some (.mapIter (some (N + 4)) 53 (seen.push k) c1)) : QInv N w w' (seen.push k) c1 es ec :=
  have hz := Q.z
  have hk : ∀ j, j < N + 7 → w'.heap[j]? = wr.heap[j]? := fun j hj => hg.block j (by omega) (by simp; omega)
  { b := Q.b.grown hg (by omega) (fun k e => by cases e; omega), z := Nat.le_trans hz hg.size, r2 := (hk _ (by omega)).trans Q.r2, r3 := (hk _ (by omega)).trans Q.r3, r4 := (hk _ (by omega)).trans Q.r4, mo := (hk _ (by omega)).trans Q.mo, mf := (hk _ (by omega)).trans Q.mf, bp := (hk _ (by omega)).trans Q.bp, vp := (hk _ (by omega)).trans Q.vp, it := hit }
theorem QInv.below {N : Nat} {w wr w' : World} {seen : Array Nat} {c0 : Nat} {es : Array MapEntry} {ec : Nat} (Q : QInv N w wr seen c0 es ec) (hb : Below wr.heap.size wr w') : QInv N w w' seen c0 es ec :=
  have hz := Q.z
  have hk : ∀ j, j < N + 8 → w'.heap[j]? = wr.heap[j]? := fun j hj => hb.block j (by omega)
  { b := Q.b.trans (hb.mono (by omega)), z := Nat.le_trans hz hb.size, r2 := (hk _ (by omega)).trans Q.r2, r3 := (hk _ (by omega)).trans Q.r3, r4 := (hk _ (by omega)).trans Q.r4, mo := (hk _ (by omega)).trans Q.mo, mf := (hk _ (by omega)).trans Q.mf, bp := (hk _ (by omega)).trans Q.bp, vp := (hk _ (by omega)).trans Q.vp, it := (hk _ (by omega)).trans Q.it }
theorem QInv.put {N : Nat} {w wr : World} {seen : Array Nat} {c0 : Nat} {es es' : Array MapEntry} {ec ec' : Nat} (Q : QInv N w wr seen c0 es ec) : QInv N w (ChangeMaps.setBlock wr (N + 3) (.map es' ec')) seen c0 es' ec' :=
  have hz := Q.z
  have hk : ∀ j, j ≠ N + 3 → (ChangeMaps.setBlock wr (N + 3) (.map es' ec')).heap[j]? = wr.heap[j]? := fun j hj => setBlock_other _ hj
  { b := Q.b.trans ⟨rfl, rfl, rfl, by simp [ChangeMaps.setBlock], fun k h => hk k (by omega)⟩, z := by simp only [ChangeMaps.setBlock, Array.size_setIfInBounds]; exact hz, r2 := (hk _ (by omega)).trans Q.r2, r3 := (hk _ (by omega)).trans Q.r3, r4 := (hk _ (by omega)).trans Q.r4, mo := setBlock_same Q.mo _, mf := (hk _ (by omega)).trans Q.mf, bp := (hk _ (by omega)).trans Q.bp, vp := (hk _ (by omega)).trans Q.vp, it := (hk _ (by omega)).trans Q.it }
theorem op_mapUpdate118 {o : Oper} {a : Act} {w w' : World} {K : Act → World → Prop} {Q : Exit → Act → World → Prop} {x y z M : Nat} {s : ByteArray} {v : Value} (ho : o.op = .mapUpdate 118 (.tmp x) (.tmp y) (.tmp z)) (hx : a.tmps.getD x undef = .map (some M)) (hy : a.tmps.getD y undef = .string s) (hz : a.tmps.getD z undef = v)
    (hr : (Instr.mapUpdate 118 (.map (some M)) (.string s) v).run Tryz.prog w = .ok () w') (h : K (a.put o.dst undef) w') : o.wp Tryz.prog a w K Q := by
  simp only [Array.getD_eq_getD_getElem?] at hx hy hz
  unfold Oper.wp
  simp [execOp, ho, hx, hy, hz, go_sem, hr]
  exact h
def P5 (N X : Nat) (k : Nat) (i : Nat) (v : Value) (_ : World) : Prop :=
  match i with
  | 0 | 1 => v = .pointer (some ⟨N + 5, 0, none⟩)
  | 2 => v = .pointer (some ⟨N + 5, 8, none⟩)
  | 3 => v = .map (some (N + 3))
  | 4 => v = .pointer (some ⟨X, 0, none⟩)
  | 5 => v = .string (opName (k + 1 : Nat))
  | 6 => v = .int .i64 (k + 1 : Nat)
  | _ => True

/-- A row that has its end; its text. -/
def isRow (row : ByteArray) : Bool := Lib.hasSuffix row.data.toList [10]
def textOf (row : ByteArray) : ByteArray := ⟨(Lib.trimSuffix row.data.toList [10]).toArray⟩
/-- The reading of rows, by a reading of lines: a code, and a group; or the number of the row that does not fit. -/
def readRows (lineR : CodeD × Int → ByteArray → Option (CodeD × Int)) : List ByteArray → Nat → CodeD × Int → (CodeD × Int) ⊕ Nat
  | [], _, st => .inl st
  | row :: r, n, st => if isRow row then match lineR st (textOf row) with
      | some st' => readRows lineR r (n + 1) st'
      | none => .inr n
    else .inr n
/-- The program reads the line t as said. -/
def LineOk (lineR : CodeD × Int → ByteArray → Option (CodeD × Int)) (st : CodeD × Int) (t : ByteArray) : Prop :=
  ∀ (H Bp Mo Mf B : Nat) (W : World), PSt H Bp Mo Mf W st.2 st.1 → Vars B W → B ≤ Bp → Calls Tryz.prog 74 #[.pointer (some ⟨Bp, 0, none⟩), .string t] W (LinePost H Bp Mo Mf W (lineR st t))
def LinesOk (lineR : CodeD × Int → ByteArray → Option (CodeD × Int)) : List ByteArray → CodeD × Int → Prop
  | [], _ => True
  | row :: r, st => isRow row = true → LineOk lineR st (textOf row) ∧ ∀ st', lineR st (textOf row) = some st' → LinesOk lineR r st'
theorem PSt.grown {H Bp Mo Mf l : Nat} {V V' : World} {g : Int} {c : CodeD} (h : PSt H Bp Mo Mf V g c) (hg : V.grownBy V' (some l)) (hl : l < H) (h1 : l ≠ Bp) (h2 : l ≠ Mo) (h3 : l ≠ Mf) : PSt H Bp Mo Mf V' g c := by
  obtain ⟨v0, v1, v2, v3, v4, v5, v6, sh, b6, I, S⟩ := h
  have hk : ∀ k x, V.heap[k]? = some x → k ≠ l → V'.heap[k]? = some x := fun k x hx hkl => (hg.block k (Array.getElem?_eq_some_iff.1 hx).1 (fun e => hkl (by cases e; rfl))).trans hx
  have ho : ∀ {base : Nat} {e : TypeId} {size : Nat} {v : Value} {n : Nat} {xs : List Value}, H ≤ base → V.ownsRow base e size v n xs → V'.ownsRow base e size v n xs := fun hb h => h.kept hg (by
    cases hv : Value.ownBlock _ with
    | none => exact .inl rfl
    | some q => exact .inr fun e => by have := (h.lt q hv).1; cases e; omega)
  obtain ⟨ob, hob, hop, hno⟩ := I.ops
  exact ⟨v0, v1, v2, v3, v4, v5, v6, sh, b6, { lo := I.lo, hz := Nat.le_trans I.hz hg.size, box := hk _ _ I.box (Ne.symm h1), types := I.types, rows := fun i r hr => ho (Nat.le_refl _) (I.rows i r hr), ops := ⟨ob, hk _ _ hob (Ne.symm h2), hop, hno⟩, forms := hk _ _ I.forms (Ne.symm h3) },
    { len := S.len, own := fun k x l' hx hl' => ⟨ho (Nat.le_refl _) (S.own k x l' hx hl').1, (S.own k x l' hx hl').2⟩, o6 := ho S.hH S.o6, hH := S.hH, hb := Nat.le_trans S.hb hg.size, n6 := S.n6 }⟩
theorem rowsF_size : ∀ (n : Nat) (s : ByteArray) (x : ByteArray), x ∈ rowsF n s → x.size ≤ s.size
  | 0, _, _, h => by simp [rowsF] at h
  | n + 1, s, x, h => by
    rw [rowsF] at h
    split at h
    · cases h
    · split at h
      · rcases List.mem_cons.1 h with rfl | h
        · simp; omega
        · have := rowsF_size n _ x h
          simp at this
          omega
      · simp at h
        subst h
        exact Nat.le_refl _
def codeZ : CodeD := ⟨[], [], [], [], [], [], []⟩
/-- The boxes of Parse: the results' and the parser's variable; how many rows have been read. -/
structure PBox (N : Nat) (w V : World) (n : Nat) : Prop where
  b : Below N w V
  r2 : V.heap[N]? = some (.cells #[.slice none 0 0, .slice none 0 0, .slice none 0 0, .slice none 0 0, .slice none 0 0, .slice none 0 0, .slice none 0 0] 30 (0, 0))
  r3 : V.heap[N + 1]? = some (.cells #[.int .i64 0] 33 (0, 0))
  r4 : V.heap[N + 2]? = some (.cells #[.int .i64 n] 3 (0, 0))
  vp : V.heap[N + 6]? = some (.cells #[.pointer (some ⟨N + 5, 0, none⟩)] 117 (0, 0))
theorem PBox.grown {N n l : Nat} {w V V' : World} (P : PBox N w V n) (hg : V.grownBy V' (some l)) (hl : N + 7 ≤ l) : PBox N w V' n := by
  have hz : N + 6 < V.heap.size := (Array.getElem?_eq_some_iff.1 P.vp).1
  have hk : ∀ k x, V.heap[k]? = some x → k ≤ N + 6 → V'.heap[k]? = some x := fun k x hx hkl => (hg.block k (Array.getElem?_eq_some_iff.1 hx).1 (fun e => by cases e; omega)).trans hx
  exact ⟨P.b.grown hg (by omega) (fun k e => by cases e; omega), hk _ _ P.r2 (by omega), hk _ _ P.r3 (by omega), hk _ _ P.r4 (by omega), hk _ _ P.vp (by omega)⟩
theorem PBox.line {N n H : Nat} {w V V' : World} (P : PBox N w V n) (hb : BelowX (N + 5) H V V') (hH : N + 7 ≤ H) : PBox N w V' n :=
  ⟨P.b.trans (hb.below (by omega) (by omega)), (hb.block _ (by omega) (by omega)).trans P.r2, (hb.block _ (by omega) (by omega)).trans P.r3, (hb.block _ (by omega) (by omega)).trans P.r4, (hb.block _ (by omega) (by omega)).trans P.vp⟩
theorem PBox.tick {N n : Nat} {w V : World} (P : PBox N w V n) : PBox N w (V.setCell ⟨N + 2, 0, none⟩ (.int .i64 (n + 1 : Nat))) (n + 1) := by
  have hk : ∀ k x, V.heap[k]? = some x → k ≠ N + 2 → (V.setCell ⟨N + 2, 0, none⟩ (.int .i64 (n + 1 : Nat))).heap[k]? = some x := fun k x hx hkl => (Below.heap_setCell _ _ _ _ hkl).trans hx
  exact ⟨P.b.setCell (p := ⟨N + 2, 0, none⟩) (by show N ≤ N + 2; omega) _, hk _ _ P.r2 (by omega), hk _ _ P.r3 (by omega), heap_setCell_at P.r4 _, hk _ _ P.vp (by omega)⟩
theorem PBox.drew {N n : Nat} {w V : World} (P : PBox N w V n) : PBox N w V.drew n := ⟨P.b.drew, P.r2, P.r3, P.r4, P.vp⟩
/-- Between two rows. -/
def PI (lineR : CodeD × Int → ByteArray → Option (CodeD × Int)) (res : (CodeD × Int) ⊕ Nat) (N H : Nat) (w : World) (r : List ByteArray) (V : World) : Prop :=
  ∃ (st : CodeD × Int) (n : Nat), LinesOk lineR r st ∧ readRows lineR r n st = res ∧ n + r.length ≤ 1000000000 ∧ (∀ x ∈ r, x.size ≤ 1000000000) ∧ PSt H (N + 5) (N + 3) (N + 4) V st.2 st.1 ∧ PBox N w V n
/-- Where a row has not been taken. -/
def PP (res : (CodeD × Int) ⊕ Nat) (N : Nat) (w : World) (ch : List PanicEntry) (V : World) : Prop :=
  ch = [{ v := .iface 122 (.agg #[]), recovered := false }] ∧ ∃ n : Nat, res = .inr n ∧ PBox N w V n
theorem PI.grown {lineR : CodeD × Int → ByteArray → Option (CodeD × Int)} {res : (CodeD × Int) ⊕ Nat} {N H l : Nat} {w V V' : World} {r : List ByteArray} (P : PI lineR res N H w r V) (hg : V.grownBy V' (some l)) (hl : N + 7 ≤ l) (hH : l < H) : PI lineR res N H w r V' := by
  obtain ⟨st, n, h1, h2, h3, h6, h4, h5⟩ := P
  exact ⟨st, n, h1, h2, h3, h6, h4.grown hg hH (by omega) (by omega) (by omega), h5.grown hg hl⟩
theorem pst_start {N H : Nat} {w V : World} {seen : Array Nat} {c0 ec : Nat} {es : Array MapEntry} (Q : QInv N w V seen c0 es ec) (hn : NamesOf seen es.toList) (hall : ∀ k : Nat, k < 53 → k ∈ seen) (hH : N + 8 ≤ H) (hz : H ≤ V.heap.size) : PSt H (N + 5) (N + 3) (N + 4) V 0 codeZ := by
  refine ⟨.slice none 0 0, .slice none 0 0, .slice none 0 0, .slice none 0 0, .slice none 0 0, .slice none 0 0, .slice none 0 0, [], H, { lo := by omega, hz := hz, box := Q.bp, types := rfl, rows := ?_, ops := ⟨_, Q.mo, opsMap_of hn hall ec, fun cs t fr e => (by cases e)⟩, forms := Q.mf }, { len := rfl, own := fun k x l hx => (by simp at hx), o6 := World.ownsRow_nil _ _ _ _, hH := Nat.le_refl _, hb := hz, n6 := fun _ => rfl }⟩
  intro i r hr
  have hi := (List.getElem?_eq_some_iff.1 hr).1
  simp only [rowsP, List.length_cons, List.length_nil] at hi
  rcases (show i = 0 ∨ i = 1 ∨ i = 2 ∨ i = 3 ∨ i = 4 ∨ i = 5 ∨ i = 6 from by omega) with rfl | rfl | rfl | rfl | rfl | rfl | rfl
  all_goals (cases hr; exact World.ownsRow_nil _ _ _ _)
end Go.Proofs.YtmfnholhhakgaaaGreatDoor
end
