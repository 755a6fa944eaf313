/- Join: its operations; moved instructions. -/
import Derived.Test.YtmfnholhhakgaaaGreatDoorCln
import Derived.Test.YtmfnholhhakgaaaGreatDoorReg
section
namespace Go.Proofs.YtmfnholhhakgaaaGreatDoor
open Go Go.Proofs Go.RowKit Go.Sort
open Classical

def smE (h : CodeH) : List MapEntry := [{ key := .int .i64 16, val := .int .i64 h.i.n, born := 0 }, { key := .int .i64 2, val := .int .i64 h.r.n, born := 1 }, { key := .int .i64 4, val := .int .i64 h.g.n, born := 2 }, { key := .int .i64 11, val := .int .i64 h.o.n, born := 3 }, { key := .int .i64 12, val := .int .i64 h.o.n, born := 4 }, { key := .int .i64 13, val := .int .i64 h.t.n, born := 5 }, { key := .int .i64 14, val := .int .i64 h.p.n, born := 6 }, { key := .int .i64 15, val := .int .i64 h.p.n, born := 7 }, { key := .int .i64 17, val := .int .i64 h.s.n, born := 8 }]
/-- The map of shifts, its first i entries. -/
def sm (h : CodeH) (i : Nat) : Obj := .map ((smE h).take i).toArray i
/-- By how much an operand of a kind is shifted. -/
def shiftN (h : CodeH) (n : Int) : Nat :=
  if n = 16 then h.i.n
  else if n = 2 then h.r.n
  else if n = 4 then h.g.n
  else if n = 11 then h.o.n
  else if n = 12 then h.o.n
  else if n = 13 then h.t.n
  else if n = 14 then h.p.n
  else if n = 15 then h.p.n
  else if n = 17 then h.s.n else 0
theorem sm_ins0 (h : CodeH) (w : World) : (Instr.mapUpdate 100 (.map (some w.heap.size)) (.int .i64 16) (.int .i64 h.i.n)).run Tryz.prog (w.alloc (sm h 0)) = .ok () (w.alloc (sm h 1)) := by
  have h := run_insert_fresh Tryz.underlying100 Tryz.underlying3 w ((smE h).take 0).toArray 0 16 (.int .i64 h.i.n) (by simp [smE])
  rw [show sm _ 0 = .map ((smE _).take 0).toArray 0 from rfl, h]
  rfl
theorem sm_ins1 (h : CodeH) (w : World) : (Instr.mapUpdate 100 (.map (some w.heap.size)) (.int .i64 2) (.int .i64 h.r.n)).run Tryz.prog (w.alloc (sm h 1)) = .ok () (w.alloc (sm h 2)) := by
  have h := run_insert_fresh Tryz.underlying100 Tryz.underlying3 w ((smE h).take 1).toArray 1 2 (.int .i64 h.r.n) (by simp [smE])
  rw [show sm _ 1 = .map ((smE _).take 1).toArray 1 from rfl, h]
  rfl
theorem sm_ins2 (h : CodeH) (w : World) : (Instr.mapUpdate 100 (.map (some w.heap.size)) (.int .i64 4) (.int .i64 h.g.n)).run Tryz.prog (w.alloc (sm h 2)) = .ok () (w.alloc (sm h 3)) := by
  have h := run_insert_fresh Tryz.underlying100 Tryz.underlying3 w ((smE h).take 2).toArray 2 4 (.int .i64 h.g.n) (by simp [smE])
  rw [show sm _ 2 = .map ((smE _).take 2).toArray 2 from rfl, h]
  rfl
theorem sm_ins3 (h : CodeH) (w : World) : (Instr.mapUpdate 100 (.map (some w.heap.size)) (.int .i64 11) (.int .i64 h.o.n)).run Tryz.prog (w.alloc (sm h 3)) = .ok () (w.alloc (sm h 4)) := by
  have h := run_insert_fresh Tryz.underlying100 Tryz.underlying3 w ((smE h).take 3).toArray 3 11 (.int .i64 h.o.n) (by simp [smE])
  rw [show sm _ 3 = .map ((smE _).take 3).toArray 3 from rfl, h]
  rfl
theorem sm_ins4 (h : CodeH) (w : World) : (Instr.mapUpdate 100 (.map (some w.heap.size)) (.int .i64 12) (.int .i64 h.o.n)).run Tryz.prog (w.alloc (sm h 4)) = .ok () (w.alloc (sm h 5)) := by
  have h := run_insert_fresh Tryz.underlying100 Tryz.underlying3 w ((smE h).take 4).toArray 4 12 (.int .i64 h.o.n) (by simp [smE])
  rw [show sm _ 4 = .map ((smE _).take 4).toArray 4 from rfl, h]
  rfl
theorem sm_ins5 (h : CodeH) (w : World) : (Instr.mapUpdate 100 (.map (some w.heap.size)) (.int .i64 13) (.int .i64 h.t.n)).run Tryz.prog (w.alloc (sm h 5)) = .ok () (w.alloc (sm h 6)) := by
  have h := run_insert_fresh Tryz.underlying100 Tryz.underlying3 w ((smE h).take 5).toArray 5 13 (.int .i64 h.t.n) (by simp [smE])
  rw [show sm _ 5 = .map ((smE _).take 5).toArray 5 from rfl, h]
  rfl
theorem sm_ins6 (h : CodeH) (w : World) : (Instr.mapUpdate 100 (.map (some w.heap.size)) (.int .i64 14) (.int .i64 h.p.n)).run Tryz.prog (w.alloc (sm h 6)) = .ok () (w.alloc (sm h 7)) := by
  have h := run_insert_fresh Tryz.underlying100 Tryz.underlying3 w ((smE h).take 6).toArray 6 14 (.int .i64 h.p.n) (by simp [smE])
  rw [show sm _ 6 = .map ((smE _).take 6).toArray 6 from rfl, h]
  rfl
theorem sm_ins7 (h : CodeH) (w : World) : (Instr.mapUpdate 100 (.map (some w.heap.size)) (.int .i64 15) (.int .i64 h.p.n)).run Tryz.prog (w.alloc (sm h 7)) = .ok () (w.alloc (sm h 8)) := by
  have h := run_insert_fresh Tryz.underlying100 Tryz.underlying3 w ((smE h).take 7).toArray 7 15 (.int .i64 h.p.n) (by simp [smE])
  rw [show sm _ 7 = .map ((smE _).take 7).toArray 7 from rfl, h]
  rfl
theorem sm_ins8 (h : CodeH) (w : World) : (Instr.mapUpdate 100 (.map (some w.heap.size)) (.int .i64 17) (.int .i64 h.s.n)).run Tryz.prog (w.alloc (sm h 8)) = .ok () (w.alloc (sm h 9)) := by
  have h := run_insert_fresh Tryz.underlying100 Tryz.underlying3 w ((smE h).take 8).toArray 8 17 (.int .i64 h.s.n) (by simp [smE])
  rw [show sm _ 8 = .map ((smE _).take 8).toArray 8 from rfl, h]
  rfl
theorem look_shift {w : World} {b : Nat} {h : CodeH} (hb : w.heap[b]? = some (sm h 9)) (n : Int) :
    (Instr.lookup 100 (.map (some b)) (.int .i64 n) false).run Tryz.prog w = .ok (.int .i64 (shiftN h n)) w := by
  by_cases h0 : n = 16
  · have e : shiftN h n = h.i.n := by unfold shiftN; simp [h0]
    rw [e]
    exact run_lookup_ok Tryz.underlying100 Tryz.underlying3 w hb n (i := 0) (v := .int .i64 h.i.n) (by subst h0; rfl) false
  by_cases h1 : n = 2
  · have e : shiftN h n = h.r.n := by unfold shiftN; simp [h1]
    rw [e]
    exact run_lookup_ok Tryz.underlying100 Tryz.underlying3 w hb n (i := 1) (v := .int .i64 h.r.n) (by subst h1; rfl) false
  by_cases h2 : n = 4
  · have e : shiftN h n = h.g.n := by unfold shiftN; simp [h2]
    rw [e]
    exact run_lookup_ok Tryz.underlying100 Tryz.underlying3 w hb n (i := 2) (v := .int .i64 h.g.n) (by subst h2; rfl) false
  by_cases h3 : n = 11
  · have e : shiftN h n = h.o.n := by unfold shiftN; simp [h3]
    rw [e]
    exact run_lookup_ok Tryz.underlying100 Tryz.underlying3 w hb n (i := 3) (v := .int .i64 h.o.n) (by subst h3; rfl) false
  by_cases h4 : n = 12
  · have e : shiftN h n = h.o.n := by unfold shiftN; simp [h4]
    rw [e]
    exact run_lookup_ok Tryz.underlying100 Tryz.underlying3 w hb n (i := 4) (v := .int .i64 h.o.n) (by subst h4; rfl) false
  by_cases h5 : n = 13
  · have e : shiftN h n = h.t.n := by unfold shiftN; simp [h5]
    rw [e]
    exact run_lookup_ok Tryz.underlying100 Tryz.underlying3 w hb n (i := 5) (v := .int .i64 h.t.n) (by subst h5; rfl) false
  by_cases h6 : n = 14
  · have e : shiftN h n = h.p.n := by unfold shiftN; simp [h6]
    rw [e]
    exact run_lookup_ok Tryz.underlying100 Tryz.underlying3 w hb n (i := 6) (v := .int .i64 h.p.n) (by subst h6; rfl) false
  by_cases h7 : n = 15
  · have e : shiftN h n = h.p.n := by unfold shiftN; simp [h7]
    rw [e]
    exact run_lookup_ok Tryz.underlying100 Tryz.underlying3 w hb n (i := 7) (v := .int .i64 h.p.n) (by subst h7; rfl) false
  by_cases h8 : n = 17
  · have e : shiftN h n = h.s.n := by unfold shiftN; simp [h8]
    rw [e]
    exact run_lookup_ok Tryz.underlying100 Tryz.underlying3 w hb n (i := 8) (v := .int .i64 h.s.n) (by subst h8; rfl) false
  have e : shiftN h n = 0 := by unfold shiftN; simp [h0, h1, h2, h3, h4, h5, h6, h7, h8]
  rw [e]
  exact run_lookup_no Tryz.underlying100 Tryz.underlying3 w hb n (z := .int .i64 0) (by kernel_rfl) (findNow_none _ _ (by
    intro x hx
    have hx' : x ∈ smE h := List.mem_of_mem_take hx
    simp only [smE, List.mem_cons, List.not_mem_nil, or_false] at hx'
    rcases hx' with rfl | rfl | rfl | rfl | rfl | rfl | rfl | rfl | rfl
    · exact ⟨16, rfl, fun e => h0 e.symm⟩
    · exact ⟨2, rfl, fun e => h1 e.symm⟩
    · exact ⟨4, rfl, fun e => h2 e.symm⟩
    · exact ⟨11, rfl, fun e => h3 e.symm⟩
    · exact ⟨12, rfl, fun e => h4 e.symm⟩
    · exact ⟨13, rfl, fun e => h5 e.symm⟩
    · exact ⟨14, rfl, fun e => h6 e.symm⟩
    · exact ⟨15, rfl, fun e => h7 e.symm⟩
    · exact ⟨17, rfl, fun e => h8 e.symm⟩)) false

/-- A place moved behind the first code. -/
def mv (I : Nat) (n : Int) : Int := if n < 0 then n else n + I
theorem mv_neg {I : Nat} {n : Int} (h : n < 0) : mv I n = n := by unfold mv; rw [if_pos h]
theorem mv_pos {I : Nat} {n : Int} (h : ¬ n < 0) : mv I n = n + I := by unfold mv; rw [if_neg h]
theorem enters57 : Enters 57 := enters_of Tryz.func57 (by kernel_rfl) rfl
theorem move_any (n : Int) (Y I : Nat) (w : World) (hc : w.cell? ⟨Y, 0, none⟩ = some (.int .i64 I)) (hn : n ≤ 1000000) (hI : I ≤ 1000000) :
    Calls Tryz.prog 57 (#[.int .i64 n] ++ #[.pointer (some ⟨Y, 0, none⟩)]) w fun e w' => e = .returned (.int .i64 (mv I n)) ∧ w = w' := by
  by_cases h : n < 0
  · have H := Lib.hid (mv_neg (I := I) h)
    go_enter Tryz.func57, Tryz.ntmps57
    go_wp2
    go_ret
    exact ⟨ret_int H.out.symm, rfl⟩
  · have H := Lib.hid (mv_pos (I := I) h)
    have h' : 0 ≤ n := by omega
    go_enter Tryz.func57, Tryz.ntmps57
    go_wp2
    go_ret
    exact ⟨ret_int H.out.symm, rfl⟩

/-- An instruction shifted. -/
def shI (h : CodeH) (x : InstrD) : InstrD := ⟨x.op, x.a + shiftN h (opK0 x.op), x.b + shiftN h (opK1 x.op), x.c + shiftN h (opK2 x.op)⟩
def shP (I : Nat) (p : ProcD) : ProcD := ⟨mv I p.entry, p.params, p.type, p.slots, p.std⟩
def shT (I : Nat) (t : ThunkD) : ThunkD := ⟨mv I t.value, mv I t.address, mv I t.desig⟩
/-- The two codes joined; h: where the first one lies (its lengths). -/
def joinD (h : CodeH) (a b : CodeD) : CodeD :=
  { instrs := a.instrs ++ b.instrs.map (shI h), procs := a.procs ++ b.procs.map (shP h.i.n), thunks := a.thunks ++ b.thunks.map (shT h.i.n)
    switches := a.switches ++ b.switches.map (fun l => l.map (mv h.i.n)), strings := a.strings ++ b.strings, reals := a.reals ++ b.reals, owns := a.owns ++ b.owns }
end Go.Proofs.YtmfnholhhakgaaaGreatDoor
end
section
namespace Go.Proofs.YtmfnholhhakgaaaGreatDoor
open Go Go.Proofs Go.RowKit Go.Sort
def IsSlice (v : Value) : Prop := ∃ a n c, v = .slice a n c
theorem own_isSlice {w : World} {base : Nat} {e : TypeId} {size : Nat} {v : Value} {n : Nat} {xs : List Value} (h : w.ownsRow base e size v n xs) : IsSlice v := by
  rcases h.2 with ⟨rfl, _⟩ | ⟨g, cap, cur, rfl, _⟩
  · exact ⟨_, _, _, rfl⟩
  · exact ⟨_, _, _, rfl⟩
theorem op_fieldAddr {o : Oper} {a : Act} {w : World} {K : Act → World → Prop} {Q : Exit → Act → World → Prop} {x : Nat} {k : Nat} (ho : o.op = .fieldAddr 30 (.tmp x) k) {N : Nat} (hx : a.tmps.getD x undef = .pointer (some ⟨N, 0, none⟩)) (hk : k < 7)
    (h : K (a.put o.dst (.pointer (some ⟨N, k, none⟩))) w) : o.wp Tryz.prog a w K Q := by
  have hx' : a.tmps[x]?.getD undef = .pointer (some ⟨N, 0, none⟩) := by simpa using hx
  unfold Oper.wp
  rcases (show k = 0 ∨ k = 1 ∨ k = 2 ∨ k = 3 ∨ k = 4 ∨ k = 5 ∨ k = 6 from by omega) with rfl | rfl | rfl | rfl | rfl | rfl | rfl
  all_goals (simp [execOp, ho, hx', go_sem]; try exact h)
theorem op_load22 {o : Oper} {a : Act} {w : World} {K : Act → World → Prop} {Q : Exit → Act → World → Prop} {x : Nat} (ho : o.op = .load 22 (.tmp x)) {N j : Nat} {v : Value} (hx : a.tmps.getD x undef = .pointer (some ⟨N, j, none⟩)) (hv : w.cell? ⟨N, j, none⟩ = some v)
    (h : K (a.put o.dst v) w) : o.wp Tryz.prog a w K Q := by
  have hx' : a.tmps[x]?.getD undef = .pointer (some ⟨N, j, none⟩) := by simpa using hx
  have ha := Tryz.isAgg22
  have hu := Tryz.underlying22
  have hs := Tryz.sizeOf22
  unfold Oper.wp
  simp [execOp, ho, hx', go_sem, ha, hs, hv]
  exact h
theorem op_load23 {o : Oper} {a : Act} {w : World} {K : Act → World → Prop} {Q : Exit → Act → World → Prop} {x : Nat} (ho : o.op = .load 23 (.tmp x)) {N j : Nat} {v : Value} (hx : a.tmps.getD x undef = .pointer (some ⟨N, j, none⟩)) (hv : w.cell? ⟨N, j, none⟩ = some v)
    (h : K (a.put o.dst v) w) : o.wp Tryz.prog a w K Q := by
  have hx' : a.tmps[x]?.getD undef = .pointer (some ⟨N, j, none⟩) := by simpa using hx
  have ha := Tryz.isAgg23
  have hu := Tryz.underlying23
  have hs := Tryz.sizeOf23
  unfold Oper.wp
  simp [execOp, ho, hx', go_sem, ha, hs, hv]
  exact h
theorem op_load24 {o : Oper} {a : Act} {w : World} {K : Act → World → Prop} {Q : Exit → Act → World → Prop} {x : Nat} (ho : o.op = .load 24 (.tmp x)) {N j : Nat} {v : Value} (hx : a.tmps.getD x undef = .pointer (some ⟨N, j, none⟩)) (hv : w.cell? ⟨N, j, none⟩ = some v)
    (h : K (a.put o.dst v) w) : o.wp Tryz.prog a w K Q := by
  have hx' : a.tmps[x]?.getD undef = .pointer (some ⟨N, j, none⟩) := by simpa using hx
  have ha := Tryz.isAgg24
  have hu := Tryz.underlying24
  have hs := Tryz.sizeOf24
  unfold Oper.wp
  simp [execOp, ho, hx', go_sem, ha, hs, hv]
  exact h
theorem op_load25 {o : Oper} {a : Act} {w : World} {K : Act → World → Prop} {Q : Exit → Act → World → Prop} {x : Nat} (ho : o.op = .load 25 (.tmp x)) {N j : Nat} {v : Value} (hx : a.tmps.getD x undef = .pointer (some ⟨N, j, none⟩)) (hv : w.cell? ⟨N, j, none⟩ = some v)
    (h : K (a.put o.dst v) w) : o.wp Tryz.prog a w K Q := by
  have hx' : a.tmps[x]?.getD undef = .pointer (some ⟨N, j, none⟩) := by simpa using hx
  have ha := Tryz.isAgg25
  have hu := Tryz.underlying25
  have hs := Tryz.sizeOf25
  unfold Oper.wp
  simp [execOp, ho, hx', go_sem, ha, hs, hv]
  exact h
theorem op_load26 {o : Oper} {a : Act} {w : World} {K : Act → World → Prop} {Q : Exit → Act → World → Prop} {x : Nat} (ho : o.op = .load 26 (.tmp x)) {N j : Nat} {v : Value} (hx : a.tmps.getD x undef = .pointer (some ⟨N, j, none⟩)) (hv : w.cell? ⟨N, j, none⟩ = some v)
    (h : K (a.put o.dst v) w) : o.wp Tryz.prog a w K Q := by
  have hx' : a.tmps[x]?.getD undef = .pointer (some ⟨N, j, none⟩) := by simpa using hx
  have ha := Tryz.isAgg26
  have hu := Tryz.underlying26
  have hs := Tryz.sizeOf26
  unfold Oper.wp
  simp [execOp, ho, hx', go_sem, ha, hs, hv]
  exact h
theorem op_load27 {o : Oper} {a : Act} {w : World} {K : Act → World → Prop} {Q : Exit → Act → World → Prop} {x : Nat} (ho : o.op = .load 27 (.tmp x)) {N j : Nat} {v : Value} (hx : a.tmps.getD x undef = .pointer (some ⟨N, j, none⟩)) (hv : w.cell? ⟨N, j, none⟩ = some v)
    (h : K (a.put o.dst v) w) : o.wp Tryz.prog a w K Q := by
  have hx' : a.tmps[x]?.getD undef = .pointer (some ⟨N, j, none⟩) := by simpa using hx
  have ha := Tryz.isAgg27
  have hu := Tryz.underlying27
  have hs := Tryz.sizeOf27
  unfold Oper.wp
  simp [execOp, ho, hx', go_sem, ha, hs, hv]
  exact h
theorem op_load28 {o : Oper} {a : Act} {w : World} {K : Act → World → Prop} {Q : Exit → Act → World → Prop} {x : Nat} (ho : o.op = .load 28 (.tmp x)) {N j : Nat} {v : Value} (hx : a.tmps.getD x undef = .pointer (some ⟨N, j, none⟩)) (hv : w.cell? ⟨N, j, none⟩ = some v)
    (h : K (a.put o.dst v) w) : o.wp Tryz.prog a w K Q := by
  have hx' : a.tmps[x]?.getD undef = .pointer (some ⟨N, j, none⟩) := by simpa using hx
  have ha := Tryz.isAgg28
  have hu := Tryz.underlying28
  have hs := Tryz.sizeOf28
  unfold Oper.wp
  simp [execOp, ho, hx', go_sem, ha, hs, hv]
  exact h
theorem op_call {o : Oper} {a : Act} {w : World} {K : Act → World → Prop} {Q : Exit → Act → World → Prop} {x t f : Nat} (ho : o.op = .call { callee := .value (.func f), args := #[.tmp x], argTypes := #[t] }) (hf : Enters f) {v : Value} (hx : a.tmps.getD x undef = v) {el size n : Nat} {xs : List Value}
    (hc : Calls Tryz.prog f #[v] w (RetRow el size n xs w)) (h : ∀ v' w', w'.ownsRow w.heap.size el size v' n xs → Below w.heap.size w w' → K (a.put o.dst v') w') : o.wp Tryz.prog a w K Q := by
  have hx' : a.tmps[x]?.getD undef = v := by simpa using hx
  have he := hf #[v] w
  unfold Oper.wp
  simp [execOp, ho, resolve, invoke, hx', go_sem, he]
  refine Calls.mono hc ?_
  rintro e w' ⟨v', rfl, h1, h2⟩
  exact h v' w' h1 h2
theorem op_build146 {o : Oper} {a : Act} {w : World} {K : Act → World → Prop} {Q : Exit → Act → World → Prop} {x y : Nat} (ho : o.op = .buildSlice 146 2 #[(0, .tmp x), (1, .tmp y)]) {A1 A2 : Option Addr} {n1 c1 n2 c2 : Nat} (hx : a.tmps.getD x undef = .slice A1 n1 c1) (hy : a.tmps.getD y undef = .slice A2 n2 c2)
    (h : K (a.put o.dst (.slice (some ⟨w.heap.size, 0, none⟩) 2 2)) (w.alloc (.cells #[.slice A1 n1 c1, .slice A2 n2 c2] 26))) : o.wp Tryz.prog a w K Q := by
  have hx' : a.tmps[x]?.getD undef = .slice A1 n1 c1 := by simpa using hx
  have hy' : a.tmps[y]?.getD undef = .slice A2 n2 c2 := by simpa using hy
  have hu := Tryz.underlying146
  have hs := Tryz.sizeOf26
  have hz := Tryz.zeroValue26
  unfold Oper.wp
  simp [execOp, ho, hx', hy', go_sem, hs, hz]
  exact h
theorem op_build148 {o : Oper} {a : Act} {w : World} {K : Act → World → Prop} {Q : Exit → Act → World → Prop} {x y : Nat} (ho : o.op = .buildSlice 148 2 #[(0, .tmp x), (1, .tmp y)]) {A1 A2 : Option Addr} {n1 c1 n2 c2 : Nat} (hx : a.tmps.getD x undef = .slice A1 n1 c1) (hy : a.tmps.getD y undef = .slice A2 n2 c2)
    (h : K (a.put o.dst (.slice (some ⟨w.heap.size, 0, none⟩) 2 2)) (w.alloc (.cells #[.slice A1 n1 c1, .slice A2 n2 c2] 27))) : o.wp Tryz.prog a w K Q := by
  have hx' : a.tmps[x]?.getD undef = .slice A1 n1 c1 := by simpa using hx
  have hy' : a.tmps[y]?.getD undef = .slice A2 n2 c2 := by simpa using hy
  have hu := Tryz.underlying148
  have hs := Tryz.sizeOf27
  have hz := Tryz.zeroValue27
  unfold Oper.wp
  simp [execOp, ho, hx', hy', go_sem, hs, hz]
  exact h
theorem op_build25 {o : Oper} {a : Act} {w : World} {K : Act → World → Prop} {Q : Exit → Act → World → Prop} {x y : Nat} (ho : o.op = .buildSlice 25 2 #[(0, .tmp x), (1, .tmp y)]) {A1 A2 : Option Addr} {n1 c1 n2 c2 : Nat} (hx : a.tmps.getD x undef = .slice A1 n1 c1) (hy : a.tmps.getD y undef = .slice A2 n2 c2)
    (h : K (a.put o.dst (.slice (some ⟨w.heap.size, 0, none⟩) 2 2)) (w.alloc (.cells #[.slice A1 n1 c1, .slice A2 n2 c2] 28))) : o.wp Tryz.prog a w K Q := by
  have hx' : a.tmps[x]?.getD undef = .slice A1 n1 c1 := by simpa using hx
  have hy' : a.tmps[y]?.getD undef = .slice A2 n2 c2 := by simpa using hy
  have hu := Tryz.underlying25
  have hs := Tryz.sizeOf28
  have hz := Tryz.zeroValue28
  unfold Oper.wp
  simp [execOp, ho, hx', hy', go_sem, hs, hz]
  exact h
theorem op_alloc30 {o : Oper} {a : Act} {w : World} {K : Act → World → Prop} {Q : Exit → Act → World → Prop} (ho : o.op = .alloc 30)
    (h : K (a.put o.dst (.pointer (some ⟨w.heap.size, 0, none⟩))) (w.alloc (.cells #[.slice none 0 0, .slice none 0 0, .slice none 0 0, .slice none 0 0, .slice none 0 0, .slice none 0 0, .slice none 0 0] 30))) : o.wp Tryz.prog a w K Q := by
  have hu := Tryz.underlying30
  have hs := Tryz.sizeOf30
  have hz := Tryz.zeroValue30
  unfold Oper.wp
  simp [execOp, ho, go_sem, hz]
  exact h
theorem op_build30 {o : Oper} {a : Act} {w : World} {K : Act → World → Prop} {Q : Exit → Act → World → Prop} {x0 x1 x2 x4 x5 x6 : Nat} (ho : o.op = .build 30 #[(0, .tmp x0), (1, .tmp x1), (2, .tmp x2), (4, .tmp x4), (5, .tmp x5), (6, .tmp x6)]) {v0 v1 v2 v4 v5 v6 : Value}
    (h0 : a.tmps.getD x0 undef = v0) (h1 : a.tmps.getD x1 undef = v1) (h2 : a.tmps.getD x2 undef = v2) (h4 : a.tmps.getD x4 undef = v4) (h5 : a.tmps.getD x5 undef = v5) (h6 : a.tmps.getD x6 undef = v6)
    (s0 : IsSlice v0) (s1 : IsSlice v1) (s2 : IsSlice v2) (s4 : IsSlice v4) (s5 : IsSlice v5) (s6 : IsSlice v6)
    (h : K (a.put o.dst (.agg #[v0, v1, v2, .slice none 0 0, v4, v5, v6])) w) : o.wp Tryz.prog a w K Q := by
  obtain ⟨a0, n0, c0, rfl⟩ := s0
  obtain ⟨a1, n1, c1, rfl⟩ := s1
  obtain ⟨a2, n2, c2, rfl⟩ := s2
  obtain ⟨a4, n4, c4, rfl⟩ := s4
  obtain ⟨a5, n5, c5, rfl⟩ := s5
  obtain ⟨a6, n6, c6, rfl⟩ := s6
  simp only [Array.getD_eq_getD_getElem?] at h0 h1 h2 h4 h5 h6
  have hu := Tryz.underlying30
  have hs := Tryz.sizeOf30
  have hz := Tryz.zeroValue30
  unfold Oper.wp
  simp [execOp, ho, h0, h1, h2, h4, h5, h6, go_sem, hz]
  exact h

/-- What the operations of the region leave: N: the box of the first code; M: the last block ahead of the region. -/
def JPred (N M : Nat) (h g : CodeH) (a b : CodeD) (i : Nat) (v : Value) (w : World) : Prop :=
  match i with
  | 0 => v = .pointer (some ⟨N, 0, none⟩)
  | 1 => v = .slice h.i.a h.i.n h.i.c
  | 2 => w.ownsRow (M + 1) 52 4 v h.i.n (a.instrs.flatMap InstrD.cells)
  | 3 => v = .pointer (some ⟨N, 1, none⟩)
  | 4 => v = .slice h.p.a h.p.n h.p.c
  | 5 => w.ownsRow (M + 1) 78 5 v h.p.n (a.procs.flatMap ProcD.cells)
  | 6 => v = .pointer (some ⟨N, 2, none⟩)
  | 7 => v = .slice h.t.a h.t.n h.t.c
  | 8 => w.ownsRow (M + 1) 94 3 v h.t.n (a.thunks.flatMap ThunkD.cells)
  | 9 => v = .pointer (some ⟨N, 4, none⟩)
  | 10 => v = .slice h.g.a h.g.n h.g.c
  | 11 => v = .pointer (some ⟨N + 1, 4, none⟩)
  | 12 => v = .slice g.g.a g.g.n g.g.c
  | 13 => ∃ m, v = .slice (some ⟨m, 0, none⟩) 2 2 ∧ m < w.heap.size ∧ w.cell? ⟨m, 0, none⟩ = some (.slice h.g.a h.g.n h.g.c) ∧ w.cell? ⟨m, 1, none⟩ = some (.slice g.g.a g.g.n g.g.c)
  | 14 => w.ownsRow (M + 1) 9 1 v (h.g.n + g.g.n) (strCells a.strings ++ strCells b.strings)
  | 15 => v = .pointer (some ⟨N, 5, none⟩)
  | 16 => v = .slice h.r.a h.r.n h.r.c
  | 17 => v = .pointer (some ⟨N + 1, 5, none⟩)
  | 18 => v = .slice g.r.a g.r.n g.r.c
  | 19 => ∃ m, v = .slice (some ⟨m, 0, none⟩) 2 2 ∧ m < w.heap.size ∧ w.cell? ⟨m, 0, none⟩ = some (.slice h.r.a h.r.n h.r.c) ∧ w.cell? ⟨m, 1, none⟩ = some (.slice g.r.a g.r.n g.r.c)
  | 20 => w.ownsRow (M + 1) 99 2 v (h.r.n + g.r.n) (a.reals.flatMap RealD.cells ++ b.reals.flatMap RealD.cells)
  | 21 => v = .pointer (some ⟨N, 6, none⟩)
  | 22 => v = .slice h.o.a h.o.n h.o.c
  | 23 => v = .pointer (some ⟨N + 1, 6, none⟩)
  | 24 => v = .slice g.o.a g.o.n g.o.c
  | 25 => ∃ m, v = .slice (some ⟨m, 0, none⟩) 2 2 ∧ m < w.heap.size ∧ w.cell? ⟨m, 0, none⟩ = some (.slice h.o.a h.o.n h.o.c) ∧ w.cell? ⟨m, 1, none⟩ = some (.slice g.o.a g.o.n g.o.c)
  | 26 => w.ownsRow (M + 1) 3 1 v (h.o.n + g.o.n) (intCells a.owns ++ intCells b.owns)
  | 27 => ∃ v0 v1 v2 v4 v5 v6, v = .agg #[v0, v1, v2, .slice none 0 0, v4, v5, v6] ∧ w.ownsRow (M + 1) 52 4 v0 h.i.n (a.instrs.flatMap InstrD.cells) ∧ w.ownsRow (M + 1) 78 5 v1 h.p.n (a.procs.flatMap ProcD.cells) ∧ w.ownsRow (M + 1) 94 3 v2 h.t.n (a.thunks.flatMap ThunkD.cells) ∧ w.ownsRow (M + 1) 9 1 v4 (h.g.n + g.g.n) (strCells a.strings ++ strCells b.strings) ∧ w.ownsRow (M + 1) 99 2 v5 (h.r.n + g.r.n) (a.reals.flatMap RealD.cells ++ b.reals.flatMap RealD.cells) ∧ w.ownsRow (M + 1) 3 1 v6 (h.o.n + g.o.n) (intCells a.owns ++ intCells b.owns)
  | 28 => ∃ O, v = .pointer (some ⟨O, 0, none⟩) ∧ M < O ∧ w.heap[O]? = some (.cells #[.slice none 0 0, .slice none 0 0, .slice none 0 0, .slice none 0 0, .slice none 0 0, .slice none 0 0, .slice none 0 0] 30 (0, 0))
  | _ => True
theorem JPred.stab {N M : Nat} {h g : CodeH} {a b : CodeD} (i : Nat) (v : Value) (w w' : World) (H : JPred N M h g a b i v w) (hb : Below w.heap.size w w') : JPred N M h g a b i v w' := by
  have hblk : ∀ (m : Nat) (k : Nat), m < w.heap.size → w'.cell? ⟨m, k, none⟩ = w.cell? ⟨m, k, none⟩ := fun m k hm => hb.cell (p := ⟨m, k, none⟩) hm
  unfold JPred at *
  split <;> (try exact H)
  · exact own_below H hb
  · exact own_below H hb
  · exact own_below H hb
  · obtain ⟨m, e, hm, c0, c1⟩ := H
    exact ⟨m, e, Nat.lt_of_lt_of_le hm hb.size, (hblk m 0 hm).trans c0, (hblk m 1 hm).trans c1⟩
  · exact own_below H hb
  · obtain ⟨m, e, hm, c0, c1⟩ := H
    exact ⟨m, e, Nat.lt_of_lt_of_le hm hb.size, (hblk m 0 hm).trans c0, (hblk m 1 hm).trans c1⟩
  · exact own_below H hb
  · obtain ⟨m, e, hm, c0, c1⟩ := H
    exact ⟨m, e, Nat.lt_of_lt_of_le hm hb.size, (hblk m 0 hm).trans c0, (hblk m 1 hm).trans c1⟩
  · exact own_below H hb
  · obtain ⟨v0, v1, v2, v4, v5, v6, e, r0, r1, r2, r4, r5, r6⟩ := H
    exact ⟨v0, v1, v2, v4, v5, v6, e, own_below r0 hb, own_below r1 hb, own_below r2 hb, own_below r4 hb, own_below r5 hb, own_below r6 hb⟩
  · obtain ⟨O, e, hO, hc⟩ := H
    exact ⟨O, e, hO, (hb.block O (Array.getElem?_eq_some_iff.1 hc).1).trans hc⟩
  · trivial

/-- The seven fields stored. -/
def set7 (w : World) (O : Nat) (v0 v1 v2 v4 v5 v6 : Value) : World :=
  (((((((w.setCell { block := O, off := 0 } v0).setCell { block := O, off := 1 } v1).setCell { block := O, off := 2 } v2).setCell { block := O, off := 3 } (.slice none 0 0)).setCell { block := O, off := 4 } v4).setCell { block := O, off := 5 } v5).setCell { block := O, off := 6 } v6)

theorem op_store30 {o : Oper} {a : Act} {w : World} {K : Act → World → Prop} {Q : Exit → Act → World → Prop} {x y : Nat} (ho : o.op = .store 30 (.tmp x) (.tmp y)) {O : Nat} {v0 v1 v2 v4 v5 v6 : Value} (hx : a.tmps.getD x undef = .pointer (some ⟨O, 0, none⟩)) (hy : a.tmps.getD y undef = .agg #[v0, v1, v2, .slice none 0 0, v4, v5, v6])
    (s0 : IsSlice v0) (s1 : IsSlice v1) (s2 : IsSlice v2) (s4 : IsSlice v4) (s5 : IsSlice v5) (s6 : IsSlice v6) (hc : w.heap[O]? = some (.cells #[.slice none 0 0, .slice none 0 0, .slice none 0 0, .slice none 0 0, .slice none 0 0, .slice none 0 0, .slice none 0 0] 30 (0, 0)))
    (h : K (a.put o.dst undef) (set7 w O v0 v1 v2 v4 v5 v6)) : o.wp Tryz.prog a w K Q := by
  obtain ⟨a0, n0, c0, rfl⟩ := s0
  obtain ⟨a1, n1, c1, rfl⟩ := s1
  obtain ⟨a2, n2, c2, rfl⟩ := s2
  obtain ⟨a4, n4, c4, rfl⟩ := s4
  obtain ⟨a5, n5, c5, rfl⟩ := s5
  obtain ⟨a6, n6, c6, rfl⟩ := s6
  simp only [Array.getD_eq_getD_getElem?] at hx hy
  have hu := Tryz.underlying30
  have hs := Tryz.sizeOf30
  have hcc : ∀ j, w.cell? ⟨O, j, none⟩ = (#[.slice none 0 0, .slice none 0 0, .slice none 0 0, .slice none 0 0, .slice none 0 0, .slice none 0 0, .slice none 0 0] : Array Value)[j]? := fun j => cell_of_row w O j _ 30 (0, 0) hc
  have hf : ∀ j, w.frozen? ⟨O, j, none⟩ = false := fun j => by simp [World.frozen?, hc]
  have k0 := hcc 0
  have k1 := hcc 1
  have k2 := hcc 2
  have k3 := hcc 3
  have k4 := hcc 4
  have k5 := hcc 5
  have k6 := hcc 6
  unfold Oper.wp
  simp [execOp, ho, hx, hy, go_sem, hs, hf, k0, k1, k2, k3, k4, k5, k6]
  exact h

theorem own_ne30 {w : World} {base : Nat} {e : TypeId} {size : Nat} {v : Value} {n : Nat} {xs : List Value} {O : Nat} {cs : Array Value} {t : TypeId} {fr : Nat × Nat} (h : w.ownsRow base e size v n xs) (ho : w.heap[O]? = some (.cells cs t fr)) (hne : t ≠ e) : v.ownBlock ≠ some O := by
  rcases h.2 with ⟨rfl, _⟩ | ⟨g, cap, cur, rfl, _, hg, _⟩
  · simp [Value.ownBlock]
  · intro e1
    have : g = O := by simpa [Value.ownBlock] using e1
    subst this
    rw [hg] at ho
    cases ho
    exact hne rfl
theorem heap_setCell_at {w : World} {O j : Nat} {cs : Array Value} {t : TypeId} {fr : Nat × Nat} (ho : w.heap[O]? = some (.cells cs t fr)) (u : Value) : (w.setCell ⟨O, j, none⟩ u).heap[O]? = some (.cells (cs.setIfInBounds j u) t fr) := by
  simp [World.setCell, Array.getElem?_modify, ho]
theorem own_setCell30 {w : World} {base : Nat} {e : TypeId} {size : Nat} {v : Value} {n : Nat} {xs : List Value} {O j : Nat} {cs : Array Value} {t : TypeId} {fr : Nat × Nat} (h : w.ownsRow base e size v n xs) (ho : w.heap[O]? = some (.cells cs t fr)) (hne : t ≠ e) (u : Value) : (w.setCell ⟨O, j, none⟩ u).ownsRow base e size v n xs :=
  ownsRow_setCell_other h (own_ne30 h ho hne) u
theorem set7_heap {w : World} {O : Nat} (v0 v1 v2 v4 v5 v6 : Value) {fr : Nat × Nat} (ho : w.heap[O]? = some (.cells #[.slice none 0 0, .slice none 0 0, .slice none 0 0, .slice none 0 0, .slice none 0 0, .slice none 0 0, .slice none 0 0] 30 fr)) :
    (set7 w O v0 v1 v2 v4 v5 v6).heap[O]? = some (.cells #[v0, v1, v2, .slice none 0 0, v4, v5, v6] 30 fr) :=
  heap_setCell_at (heap_setCell_at (heap_setCell_at (heap_setCell_at (heap_setCell_at (heap_setCell_at (heap_setCell_at ho v0) v1) v2) _) v4) v5) v6
theorem set7_own {w : World} {base : Nat} {e : TypeId} {size : Nat} {v : Value} {n : Nat} {xs : List Value} {O : Nat} (v0 v1 v2 v4 v5 v6 : Value) {cs : Array Value} {fr : Nat × Nat} (ho : w.heap[O]? = some (.cells cs 30 fr)) (h : w.ownsRow base e size v n xs) (hne : 30 ≠ e) : (set7 w O v0 v1 v2 v4 v5 v6).ownsRow base e size v n xs := by
  have h0 := heap_setCell_at (j := 0) ho v0
  have h1 := heap_setCell_at (j := 1) h0 v1
  have h2 := heap_setCell_at (j := 2) h1 v2
  have h3 := heap_setCell_at (j := 3) h2 (.slice none 0 0)
  have h4 := heap_setCell_at (j := 4) h3 v4
  have h5 := heap_setCell_at (j := 5) h4 v5
  exact own_setCell30 (own_setCell30 (own_setCell30 (own_setCell30 (own_setCell30 (own_setCell30 (own_setCell30 h ho hne v0) h0 hne v1) h1 hne v2) h2 hne _) h3 hne v4) h4 hne v5) h5 hne v6
theorem set7_below {B : Nat} {w0 w : World} {O : Nat} (v0 v1 v2 v4 v5 v6 : Value) (h : Below B w0 w) (hO : B ≤ O) : Below B w0 (set7 w O v0 v1 v2 v4 v5 v6) :=
  ((((((h.setCell (p := ⟨O, 0, none⟩) hO v0).setCell (p := ⟨O, 1, none⟩) hO v1).setCell (p := ⟨O, 2, none⟩) hO v2).setCell (p := ⟨O, 3, none⟩) hO _).setCell (p := ⟨O, 4, none⟩) hO v4).setCell (p := ⟨O, 5, none⟩) hO v5).setCell (p := ⟨O, 6, none⟩) hO v6

theorem own_kept_ty {w w' : World} {base base' : Nat} {e e' : TypeId} {size size' : Nat} {v v' : Value} {n n' : Nat} {xs xs' : List Value} (h : w.ownsRow base e size v n xs) (h' : w.ownsRow base' e' size' v' n' xs') (hne : e ≠ e') (hg : w.grownBy w' v'.ownBlock) : w'.ownsRow base e size v n xs := by
  refine h.kept hg ?_
  rcases h.2 with ⟨rfl, _⟩ | ⟨g, cap, cur, rfl, _, hgh, _⟩
  · exact .inl rfl
  · right
    intro e1
    refine own_ne30 h' hgh hne ?_
    rw [← e1]
    rfl
/-- The code that is being made: its box O, and the rows that it owns. -/
structure JOut (M O : Nat) (w : World) (v0 v1 v2 v3 v4 v5 v6 : Value) (n0 n1 n2 n3 n4 n5 n6 : Nat) (x0 x1 x2 x3 x4 x5 x6 : List Value) : Prop where
  lo : M < O
  o : w.heap[O]? = some (.cells #[v0, v1, v2, v3, v4, v5, v6] 30 (0, 0))
  r0 : w.ownsRow (M + 1) 52 4 v0 n0 x0
  r1 : w.ownsRow (M + 1) 78 5 v1 n1 x1
  r2 : w.ownsRow (M + 1) 94 3 v2 n2 x2
  r3 : w.ownsRow (M + 1) 28 1 v3 n3 x3
  r4 : w.ownsRow (M + 1) 9 1 v4 n4 x4
  r5 : w.ownsRow (M + 1) 99 2 v5 n5 x5
  r6 : w.ownsRow (M + 1) 3 1 v6 n6 x6
theorem JOut.below {M O : Nat} {w w' : World} {v0 v1 v2 v3 v4 v5 v6 : Value} {n0 n1 n2 n3 n4 n5 n6 : Nat} {x0 x1 x2 x3 x4 x5 x6 : List Value} (H : JOut M O w v0 v1 v2 v3 v4 v5 v6 n0 n1 n2 n3 n4 n5 n6 x0 x1 x2 x3 x4 x5 x6) (hb : Below w.heap.size w w') : JOut M O w' v0 v1 v2 v3 v4 v5 v6 n0 n1 n2 n3 n4 n5 n6 x0 x1 x2 x3 x4 x5 x6 :=
  { lo := H.lo, o := (hb.block O (Array.getElem?_eq_some_iff.1 H.o).1).trans H.o, r0 := own_below H.r0 hb, r1 := own_below H.r1 hb, r2 := own_below H.r2 hb, r3 := own_below H.r3 hb, r4 := own_below H.r4 hb, r5 := own_below H.r5 hb, r6 := own_below H.r6 hb }
/-- Row 0 appended to, and its field stored anew. -/
theorem JOut.push0 {M O : Nat} {w w1 : World} {v0 v1 v2 v3 v4 v5 v6 v' : Value} {n0 n1 n2 n3 n4 n5 n6 n' : Nat} {x0 x1 x2 x3 x4 x5 x6 x' : List Value} (H : JOut M O w v0 v1 v2 v3 v4 v5 v6 n0 n1 n2 n3 n4 n5 n6 x0 x1 x2 x3 x4 x5 x6) (ho : w1.ownsRow (M + 1) 52 4 v' n' x') (hg : w.grownBy w1 v0.ownBlock) :
    JOut M O (w1.setCell ⟨O, 0, none⟩ v') v' v1 v2 v3 v4 v5 v6 n' n1 n2 n3 n4 n5 n6 x' x1 x2 x3 x4 x5 x6 := by
  have hlt := (Array.getElem?_eq_some_iff.1 H.o).1
  have hO : w1.heap[O]? = some (.cells #[v0, v1, v2, v3, v4, v5, v6] 30 (0, 0)) := (hg.block O hlt (fun e => own_ne30 H.r0 H.o (by decide) e.symm)).trans H.o
  have hk : ∀ {e : TypeId} {size : Nat} {v : Value} {n : Nat} {xs : List Value}, w.ownsRow (M + 1) e size v n xs → e ≠ 52 → 30 ≠ e → (w1.setCell ⟨O, 0, none⟩ v').ownsRow (M + 1) e size v n xs := fun h he h3 => own_setCell30 (own_kept_ty h H.r0 he hg) hO h3 v'
  exact { lo := H.lo, o := heap_setCell_at hO v', r0 := own_setCell30 ho hO (by decide) v', r1 := hk H.r1 (by decide) (by decide), r2 := hk H.r2 (by decide) (by decide), r3 := hk H.r3 (by decide) (by decide), r4 := hk H.r4 (by decide) (by decide), r5 := hk H.r5 (by decide) (by decide), r6 := hk H.r6 (by decide) (by decide) }
/-- Row 1 appended to, and its field stored anew. -/
theorem JOut.push1 {M O : Nat} {w w1 : World} {v0 v1 v2 v3 v4 v5 v6 v' : Value} {n0 n1 n2 n3 n4 n5 n6 n' : Nat} {x0 x1 x2 x3 x4 x5 x6 x' : List Value} (H : JOut M O w v0 v1 v2 v3 v4 v5 v6 n0 n1 n2 n3 n4 n5 n6 x0 x1 x2 x3 x4 x5 x6) (ho : w1.ownsRow (M + 1) 78 5 v' n' x') (hg : w.grownBy w1 v1.ownBlock) :
    JOut M O (w1.setCell ⟨O, 1, none⟩ v') v0 v' v2 v3 v4 v5 v6 n0 n' n2 n3 n4 n5 n6 x0 x' x2 x3 x4 x5 x6 := by
  have hlt := (Array.getElem?_eq_some_iff.1 H.o).1
  have hO : w1.heap[O]? = some (.cells #[v0, v1, v2, v3, v4, v5, v6] 30 (0, 0)) := (hg.block O hlt (fun e => own_ne30 H.r1 H.o (by decide) e.symm)).trans H.o
  have hk : ∀ {e : TypeId} {size : Nat} {v : Value} {n : Nat} {xs : List Value}, w.ownsRow (M + 1) e size v n xs → e ≠ 78 → 30 ≠ e → (w1.setCell ⟨O, 1, none⟩ v').ownsRow (M + 1) e size v n xs := fun h he h3 => own_setCell30 (own_kept_ty h H.r1 he hg) hO h3 v'
  exact { lo := H.lo, o := heap_setCell_at hO v', r0 := hk H.r0 (by decide) (by decide), r1 := own_setCell30 ho hO (by decide) v', r2 := hk H.r2 (by decide) (by decide), r3 := hk H.r3 (by decide) (by decide), r4 := hk H.r4 (by decide) (by decide), r5 := hk H.r5 (by decide) (by decide), r6 := hk H.r6 (by decide) (by decide) }
/-- Row 2 appended to, and its field stored anew. -/
theorem JOut.push2 {M O : Nat} {w w1 : World} {v0 v1 v2 v3 v4 v5 v6 v' : Value} {n0 n1 n2 n3 n4 n5 n6 n' : Nat} {x0 x1 x2 x3 x4 x5 x6 x' : List Value} (H : JOut M O w v0 v1 v2 v3 v4 v5 v6 n0 n1 n2 n3 n4 n5 n6 x0 x1 x2 x3 x4 x5 x6) (ho : w1.ownsRow (M + 1) 94 3 v' n' x') (hg : w.grownBy w1 v2.ownBlock) :
    JOut M O (w1.setCell ⟨O, 2, none⟩ v') v0 v1 v' v3 v4 v5 v6 n0 n1 n' n3 n4 n5 n6 x0 x1 x' x3 x4 x5 x6 := by
  have hlt := (Array.getElem?_eq_some_iff.1 H.o).1
  have hO : w1.heap[O]? = some (.cells #[v0, v1, v2, v3, v4, v5, v6] 30 (0, 0)) := (hg.block O hlt (fun e => own_ne30 H.r2 H.o (by decide) e.symm)).trans H.o
  have hk : ∀ {e : TypeId} {size : Nat} {v : Value} {n : Nat} {xs : List Value}, w.ownsRow (M + 1) e size v n xs → e ≠ 94 → 30 ≠ e → (w1.setCell ⟨O, 2, none⟩ v').ownsRow (M + 1) e size v n xs := fun h he h3 => own_setCell30 (own_kept_ty h H.r2 he hg) hO h3 v'
  exact { lo := H.lo, o := heap_setCell_at hO v', r0 := hk H.r0 (by decide) (by decide), r1 := hk H.r1 (by decide) (by decide), r2 := own_setCell30 ho hO (by decide) v', r3 := hk H.r3 (by decide) (by decide), r4 := hk H.r4 (by decide) (by decide), r5 := hk H.r5 (by decide) (by decide), r6 := hk H.r6 (by decide) (by decide) }
/-- Row 3 appended to, and its field stored anew. -/
theorem JOut.push3 {M O : Nat} {w w1 : World} {v0 v1 v2 v3 v4 v5 v6 v' : Value} {n0 n1 n2 n3 n4 n5 n6 n' : Nat} {x0 x1 x2 x3 x4 x5 x6 x' : List Value} (H : JOut M O w v0 v1 v2 v3 v4 v5 v6 n0 n1 n2 n3 n4 n5 n6 x0 x1 x2 x3 x4 x5 x6) (ho : w1.ownsRow (M + 1) 28 1 v' n' x') (hg : w.grownBy w1 v3.ownBlock) :
    JOut M O (w1.setCell ⟨O, 3, none⟩ v') v0 v1 v2 v' v4 v5 v6 n0 n1 n2 n' n4 n5 n6 x0 x1 x2 x' x4 x5 x6 := by
  have hlt := (Array.getElem?_eq_some_iff.1 H.o).1
  have hO : w1.heap[O]? = some (.cells #[v0, v1, v2, v3, v4, v5, v6] 30 (0, 0)) := (hg.block O hlt (fun e => own_ne30 H.r3 H.o (by decide) e.symm)).trans H.o
  have hk : ∀ {e : TypeId} {size : Nat} {v : Value} {n : Nat} {xs : List Value}, w.ownsRow (M + 1) e size v n xs → e ≠ 28 → 30 ≠ e → (w1.setCell ⟨O, 3, none⟩ v').ownsRow (M + 1) e size v n xs := fun h he h3 => own_setCell30 (own_kept_ty h H.r3 he hg) hO h3 v'
  exact { lo := H.lo, o := heap_setCell_at hO v', r0 := hk H.r0 (by decide) (by decide), r1 := hk H.r1 (by decide) (by decide), r2 := hk H.r2 (by decide) (by decide), r3 := own_setCell30 ho hO (by decide) v', r4 := hk H.r4 (by decide) (by decide), r5 := hk H.r5 (by decide) (by decide), r6 := hk H.r6 (by decide) (by decide) }
end Go.Proofs.YtmfnholhhakgaaaGreatDoor
end
