/- The operations of the parser's regions, its state, the rows it pushes, the words of a line. -/
import Derived.Test.YtmfnholhhakgaaaGreatDoorPaa
import Derived.Test.YtmfnholhhakgaaaGreatDoorMhn
import Derived.WalkSpells
section
namespace Go.Proofs.YtmfnholhhakgaaaGreatDoor
open Go Go.Proofs Go.RowKit Go.Sort

theorem op_nilCheck {o : Oper} {a : Act} {w : World} {K : Act → World → Prop} {Q : Exit → Act → World → Prop} {x : Nat} {A : Addr} (ho : o.op = .nilCheck (.tmp x)) (hx : a.tmps.getD x undef = .pointer (some A)) (h : K (a.put o.dst (.pointer (some A))) w) : o.wp Tryz.prog a w K Q := by
  have hx' : a.tmps[x]?.getD undef = .pointer (some A) := by simpa using hx
  unfold Oper.wp
  simp [execOp, ho, hx', go_sem]
  try exact h
theorem op_parser0 {o : Oper} {a : Act} {w : World} {K : Act → World → Prop} {Q : Exit → Act → World → Prop} {x N : Nat} (ho : o.op = .fieldAddr 120 (.tmp x) 0) (hx : a.tmps.getD x undef = .pointer (some ⟨N, 0, none⟩)) (h : K (a.put o.dst (.pointer (some ⟨N, 0, none⟩))) w) : o.wp Tryz.prog a w K Q := by
  have hx' : a.tmps[x]?.getD undef = .pointer (some ⟨N, 0, none⟩) := by simpa using hx
  unfold Oper.wp
  simp [execOp, ho, hx', go_sem]
  try exact h
theorem op_parser1 {o : Oper} {a : Act} {w : World} {K : Act → World → Prop} {Q : Exit → Act → World → Prop} {x N : Nat} (ho : o.op = .fieldAddr 120 (.tmp x) 1) (hx : a.tmps.getD x undef = .pointer (some ⟨N, 0, none⟩)) (h : K (a.put o.dst (.pointer (some ⟨N, 7, none⟩))) w) : o.wp Tryz.prog a w K Q := by
  have hx' : a.tmps[x]?.getD undef = .pointer (some ⟨N, 0, none⟩) := by simpa using hx
  unfold Oper.wp
  simp [execOp, ho, hx', go_sem]
  try exact h
theorem op_parser2 {o : Oper} {a : Act} {w : World} {K : Act → World → Prop} {Q : Exit → Act → World → Prop} {x N : Nat} (ho : o.op = .fieldAddr 120 (.tmp x) 2) (hx : a.tmps.getD x undef = .pointer (some ⟨N, 0, none⟩)) (h : K (a.put o.dst (.pointer (some ⟨N, 8, none⟩))) w) : o.wp Tryz.prog a w K Q := by
  have hx' : a.tmps[x]?.getD undef = .pointer (some ⟨N, 0, none⟩) := by simpa using hx
  unfold Oper.wp
  simp [execOp, ho, hx', go_sem]
  try exact h
theorem op_parser3 {o : Oper} {a : Act} {w : World} {K : Act → World → Prop} {Q : Exit → Act → World → Prop} {x N : Nat} (ho : o.op = .fieldAddr 120 (.tmp x) 3) (hx : a.tmps.getD x undef = .pointer (some ⟨N, 0, none⟩)) (h : K (a.put o.dst (.pointer (some ⟨N, 9, none⟩))) w) : o.wp Tryz.prog a w K Q := by
  have hx' : a.tmps[x]?.getD undef = .pointer (some ⟨N, 0, none⟩) := by simpa using hx
  unfold Oper.wp
  simp [execOp, ho, hx', go_sem]
  try exact h
theorem op_index28 {o : Oper} {a : Act} {w : World} {K : Act → World → Prop} {Q : Exit → Act → World → Prop} {x i : Nat} {A : Addr} {n c : Nat} (ho : o.op = .indexAddr 28 (.tmp x) (.const (.int .i64 i))) (hx : a.tmps.getD x undef = .slice (some A) n c) (hi : i < n) (h : K (a.put o.dst (.pointer (some (A.add i)))) w) : o.wp Tryz.prog a w K Q := by
  have hx' : a.tmps[x]?.getD undef = .slice (some A) n c := by simpa using hx
  have hs := Tryz.sizeOf3
  have hu := Tryz.underlying28
  have hi' : (i : Int) < n := by omega
  unfold Oper.wp
  simp [execOp, ho, hx', go_sem, hs, hu, hi']
  exact h
theorem op_loadA3 {o : Oper} {a : Act} {w : World} {K : Act → World → Prop} {Q : Exit → Act → World → Prop} {x : Nat} {A : Addr} {v : Value} (ho : o.op = .load 3 (.tmp x)) (hx : a.tmps.getD x undef = .pointer (some A)) (hv : w.cell? A = some v) (h : K (a.put o.dst v) w) : o.wp Tryz.prog a w K Q := by
  have hx' : a.tmps[x]?.getD undef = .pointer (some A) := by simpa using hx
  have ha := Tryz.isAgg3
  have hu := Tryz.underlying3
  have hs := Tryz.sizeOf3
  unfold Oper.wp
  simp [execOp, ho, hx', go_sem, ha, hs, hv]
  exact h
theorem op_load78 {o : Oper} {a : Act} {w : World} {K : Act → World → Prop} {Q : Exit → Act → World → Prop} {x N : Nat} {v0 v1 v2 v3 v4 : Value} (ho : o.op = .load 78 (.tmp x)) (hx : a.tmps.getD x undef = .pointer (some ⟨N, 0, none⟩)) (h0 : w.cell? ⟨N, 0, none⟩ = some v0) (h1 : w.cell? ⟨N, 1, none⟩ = some v1) (h2 : w.cell? ⟨N, 2, none⟩ = some v2) (h3 : w.cell? ⟨N, 3, none⟩ = some v3) (h4 : w.cell? ⟨N, 4, none⟩ = some v4) (h : K (a.put o.dst (.agg #[v0, v1, v2, v3, v4])) w) : o.wp Tryz.prog a w K Q := by
  have hx' : a.tmps[x]?.getD undef = .pointer (some ⟨N, 0, none⟩) := by simpa using hx
  have ha := Tryz.isAgg78
  have hu := Tryz.underlying78
  have hs := Tryz.sizeOf78
  unfold Oper.wp
  simp [execOp, ho, hx', go_sem, ha, hs, h0, h1, h2, h3, h4]
  exact h
theorem op_load99 {o : Oper} {a : Act} {w : World} {K : Act → World → Prop} {Q : Exit → Act → World → Prop} {x N : Nat} {v0 v1 : Value} (ho : o.op = .load 99 (.tmp x)) (hx : a.tmps.getD x undef = .pointer (some ⟨N, 0, none⟩)) (h0 : w.cell? ⟨N, 0, none⟩ = some v0) (h1 : w.cell? ⟨N, 1, none⟩ = some v1) (h : K (a.put o.dst (.agg #[v0, v1])) w) : o.wp Tryz.prog a w K Q := by
  have hx' : a.tmps[x]?.getD undef = .pointer (some ⟨N, 0, none⟩) := by simpa using hx
  have ha := Tryz.isAgg99
  have hu := Tryz.underlying99
  have hs := Tryz.sizeOf99
  unfold Oper.wp
  simp [execOp, ho, hx', go_sem, ha, hs, h0, h1]
  exact h
theorem op_build52 {o : Oper} {a : Act} {w : World} {K : Act → World → Prop} {Q : Exit → Act → World → Prop} {x y z u : Nat} {p q r s : Int} (ho : o.op = .build 52 #[(0, .tmp x), (1, .tmp y), (2, .tmp z), (3, .tmp u)]) (hx : a.tmps.getD x undef = .int .i64 p) (hy : a.tmps.getD y undef = .int .i64 q) (hz : a.tmps.getD z undef = .int .i64 r) (hu : a.tmps.getD u undef = .int .i64 s) (h : K (a.put o.dst (.agg #[.int .i64 p, .int .i64 q, .int .i64 r, .int .i64 s])) w) : o.wp Tryz.prog a w K Q := by
  simp only [Array.getD_eq_getD_getElem?] at hx hy hz hu
  have hun := Tryz.underlying52
  have hs := Tryz.sizeOf52
  have hzv := Tryz.zeroValue52
  unfold Oper.wp
  simp [execOp, ho, hx, hy, hz, hu, go_sem, hzv]
  exact h
theorem op_bs22 {o : Oper} {a : Act} {w : World} {K : Act → World → Prop} {Q : Exit → Act → World → Prop} {x : Nat} {p0 : Int} {p1 : Int} {p2 : Int} {p3 : Int} (ho : o.op = .buildSlice 22 1 #[(0, .tmp x)]) (hx : a.tmps.getD x undef = .agg #[.int .i64 p0, .int .i64 p1, .int .i64 p2, .int .i64 p3]) (h : K (a.put o.dst (.slice (some ⟨w.heap.size, 0, none⟩) 1 1)) (w.alloc (.cells #[.int .i64 p0, .int .i64 p1, .int .i64 p2, .int .i64 p3] 52))) : o.wp Tryz.prog a w K Q := by
  simp only [Array.getD_eq_getD_getElem?] at hx
  have hu := Tryz.underlying22
  have hs := Tryz.sizeOf52
  have hz := Tryz.zeroValue52
  unfold Oper.wp
  simp [execOp, ho, hx, go_sem, hs, hz]
  exact h
theorem op_bs23 {o : Oper} {a : Act} {w : World} {K : Act → World → Prop} {Q : Exit → Act → World → Prop} {x : Nat} {p0 : Int} {p1 : Int} {p2 : Int} {p3 : Int} {p4 : Bool} (ho : o.op = .buildSlice 23 1 #[(0, .tmp x)]) (hx : a.tmps.getD x undef = .agg #[.int .i64 p0, .int .i64 p1, .int .i64 p2, .int .i64 p3, .bool p4]) (h : K (a.put o.dst (.slice (some ⟨w.heap.size, 0, none⟩) 1 1)) (w.alloc (.cells #[.int .i64 p0, .int .i64 p1, .int .i64 p2, .int .i64 p3, .bool p4] 78))) : o.wp Tryz.prog a w K Q := by
  simp only [Array.getD_eq_getD_getElem?] at hx
  have hu := Tryz.underlying23
  have hs := Tryz.sizeOf78
  have hz := Tryz.zeroValue78
  unfold Oper.wp
  simp [execOp, ho, hx, go_sem, hs, hz]
  exact h
theorem op_bs27 {o : Oper} {a : Act} {w : World} {K : Act → World → Prop} {Q : Exit → Act → World → Prop} {x : Nat} {p0 : Int} {p1 : Int} (ho : o.op = .buildSlice 27 1 #[(0, .tmp x)]) (hx : a.tmps.getD x undef = .agg #[.int .i64 p0, .int .i64 p1]) (h : K (a.put o.dst (.slice (some ⟨w.heap.size, 0, none⟩) 1 1)) (w.alloc (.cells #[.int .i64 p0, .int .i64 p1] 99))) : o.wp Tryz.prog a w K Q := by
  simp only [Array.getD_eq_getD_getElem?] at hx
  have hu := Tryz.underlying27
  have hs := Tryz.sizeOf99
  have hz := Tryz.zeroValue99
  unfold Oper.wp
  simp [execOp, ho, hx, go_sem, hs, hz]
  exact h
theorem op_bs28 {o : Oper} {a : Act} {w : World} {K : Act → World → Prop} {Q : Exit → Act → World → Prop} {x : Nat} {p : Int} (ho : o.op = .buildSlice 28 1 #[(0, .tmp x)]) (hx : a.tmps.getD x undef = .int .i64 p) (h : K (a.put o.dst (.slice (some ⟨w.heap.size, 0, none⟩) 1 1)) (w.alloc (.cells #[.int .i64 p] 3))) : o.wp Tryz.prog a w K Q := by
  simp only [Array.getD_eq_getD_getElem?] at hx
  have hu := Tryz.underlying28
  have hs := Tryz.sizeOf3
  have hz := Tryz.zeroValue3
  unfold Oper.wp
  simp [execOp, ho, hx, go_sem, hs, hz]
  exact h
theorem op_put22 {o : Oper} {a : Act} {w : World} {K : Act → World → Prop} {Q : Exit → Act → World → Prop} {x y O j : Nat} {v v0 : Value} (ho : o.op = .store 22 (.tmp x) (.tmp y)) (hx : a.tmps.getD x undef = .pointer (some ⟨O, j, none⟩)) (hy : a.tmps.getD y undef = v) (hs : IsSlice v) (hc : w.cell? ⟨O, j, none⟩ = some v0) (hf : w.frozen? ⟨O, j, none⟩ = false) (h : K (a.put o.dst undef) (w.setCell ⟨O, j, none⟩ v)) : o.wp Tryz.prog a w K Q := by
  obtain ⟨a0, n0, c0, rfl⟩ := hs
  simp only [Array.getD_eq_getD_getElem?] at hx hy
  have hu := Tryz.underlying22
  have hsz := Tryz.sizeOf22
  have ha := Tryz.isAgg22
  unfold Oper.wp
  simp [execOp, ho, hx, hy, go_sem, hsz, hc, hf]
  exact h
theorem op_put23 {o : Oper} {a : Act} {w : World} {K : Act → World → Prop} {Q : Exit → Act → World → Prop} {x y O j : Nat} {v v0 : Value} (ho : o.op = .store 23 (.tmp x) (.tmp y)) (hx : a.tmps.getD x undef = .pointer (some ⟨O, j, none⟩)) (hy : a.tmps.getD y undef = v) (hs : IsSlice v) (hc : w.cell? ⟨O, j, none⟩ = some v0) (hf : w.frozen? ⟨O, j, none⟩ = false) (h : K (a.put o.dst undef) (w.setCell ⟨O, j, none⟩ v)) : o.wp Tryz.prog a w K Q := by
  obtain ⟨a0, n0, c0, rfl⟩ := hs
  simp only [Array.getD_eq_getD_getElem?] at hx hy
  have hu := Tryz.underlying23
  have hsz := Tryz.sizeOf23
  have ha := Tryz.isAgg23
  unfold Oper.wp
  simp [execOp, ho, hx, hy, go_sem, hsz, hc, hf]
  exact h
theorem op_put24 {o : Oper} {a : Act} {w : World} {K : Act → World → Prop} {Q : Exit → Act → World → Prop} {x y O j : Nat} {v v0 : Value} (ho : o.op = .store 24 (.tmp x) (.tmp y)) (hx : a.tmps.getD x undef = .pointer (some ⟨O, j, none⟩)) (hy : a.tmps.getD y undef = v) (hs : IsSlice v) (hc : w.cell? ⟨O, j, none⟩ = some v0) (hf : w.frozen? ⟨O, j, none⟩ = false) (h : K (a.put o.dst undef) (w.setCell ⟨O, j, none⟩ v)) : o.wp Tryz.prog a w K Q := by
  obtain ⟨a0, n0, c0, rfl⟩ := hs
  simp only [Array.getD_eq_getD_getElem?] at hx hy
  have hu := Tryz.underlying24
  have hsz := Tryz.sizeOf24
  have ha := Tryz.isAgg24
  unfold Oper.wp
  simp [execOp, ho, hx, hy, go_sem, hsz, hc, hf]
  exact h
theorem op_put25 {o : Oper} {a : Act} {w : World} {K : Act → World → Prop} {Q : Exit → Act → World → Prop} {x y O j : Nat} {v v0 : Value} (ho : o.op = .store 25 (.tmp x) (.tmp y)) (hx : a.tmps.getD x undef = .pointer (some ⟨O, j, none⟩)) (hy : a.tmps.getD y undef = v) (hs : IsSlice v) (hc : w.cell? ⟨O, j, none⟩ = some v0) (hf : w.frozen? ⟨O, j, none⟩ = false) (h : K (a.put o.dst undef) (w.setCell ⟨O, j, none⟩ v)) : o.wp Tryz.prog a w K Q := by
  obtain ⟨a0, n0, c0, rfl⟩ := hs
  simp only [Array.getD_eq_getD_getElem?] at hx hy
  have hu := Tryz.underlying25
  have hsz := Tryz.sizeOf25
  have ha := Tryz.isAgg25
  unfold Oper.wp
  simp [execOp, ho, hx, hy, go_sem, hsz, hc, hf]
  exact h
theorem op_put27 {o : Oper} {a : Act} {w : World} {K : Act → World → Prop} {Q : Exit → Act → World → Prop} {x y O j : Nat} {v v0 : Value} (ho : o.op = .store 27 (.tmp x) (.tmp y)) (hx : a.tmps.getD x undef = .pointer (some ⟨O, j, none⟩)) (hy : a.tmps.getD y undef = v) (hs : IsSlice v) (hc : w.cell? ⟨O, j, none⟩ = some v0) (hf : w.frozen? ⟨O, j, none⟩ = false) (h : K (a.put o.dst undef) (w.setCell ⟨O, j, none⟩ v)) : o.wp Tryz.prog a w K Q := by
  obtain ⟨a0, n0, c0, rfl⟩ := hs
  simp only [Array.getD_eq_getD_getElem?] at hx hy
  have hu := Tryz.underlying27
  have hsz := Tryz.sizeOf27
  have ha := Tryz.isAgg27
  unfold Oper.wp
  simp [execOp, ho, hx, hy, go_sem, hsz, hc, hf]
  exact h
theorem op_put28 {o : Oper} {a : Act} {w : World} {K : Act → World → Prop} {Q : Exit → Act → World → Prop} {x y O j : Nat} {v v0 : Value} (ho : o.op = .store 28 (.tmp x) (.tmp y)) (hx : a.tmps.getD x undef = .pointer (some ⟨O, j, none⟩)) (hy : a.tmps.getD y undef = v) (hs : IsSlice v) (hc : w.cell? ⟨O, j, none⟩ = some v0) (hf : w.frozen? ⟨O, j, none⟩ = false) (h : K (a.put o.dst undef) (w.setCell ⟨O, j, none⟩ v)) : o.wp Tryz.prog a w K Q := by
  obtain ⟨a0, n0, c0, rfl⟩ := hs
  simp only [Array.getD_eq_getD_getElem?] at hx hy
  have hu := Tryz.underlying28
  have hsz := Tryz.sizeOf28
  have ha := Tryz.isAgg28
  unfold Oper.wp
  simp [execOp, ho, hx, hy, go_sem, hsz, hc, hf]
  exact h
theorem op_put3 {o : Oper} {a : Act} {w : World} {K : Act → World → Prop} {Q : Exit → Act → World → Prop} {x y O j : Nat} {n : Int} {v0 : Value} (ho : o.op = .store 3 (.tmp x) (.tmp y)) (hx : a.tmps.getD x undef = .pointer (some ⟨O, j, none⟩)) (hy : a.tmps.getD y undef = .int .i64 n) (hc : w.cell? ⟨O, j, none⟩ = some v0) (hf : w.frozen? ⟨O, j, none⟩ = false) (h : K (a.put o.dst undef) (w.setCell ⟨O, j, none⟩ (.int .i64 n))) : o.wp Tryz.prog a w K Q := by
  simp only [Array.getD_eq_getD_getElem?] at hx hy
  have hu := Tryz.underlying3
  have hsz := Tryz.sizeOf3
  have ha := Tryz.isAgg3
  unfold Oper.wp
  simp [execOp, ho, hx, hy, go_sem, hsz, hc, hf]
  exact h
theorem op_fieldAddr78 {o : Oper} {a : Act} {w : World} {K : Act → World → Prop} {Q : Exit → Act → World → Prop} {x k N : Nat} (ho : o.op = .fieldAddr 78 (.tmp x) k) (hx : a.tmps.getD x undef = .pointer (some ⟨N, 0, none⟩)) (hk : k < 5) (h : K (a.put o.dst (.pointer (some ⟨N, k, none⟩))) w) : o.wp Tryz.prog a w K Q := by
  have hx' : a.tmps[x]?.getD undef = .pointer (some ⟨N, 0, none⟩) := by simpa using hx
  unfold Oper.wp
  rcases (show k = 0 ∨ k = 1 ∨ k = 2 ∨ k = 3 ∨ k = 4 from by omega) with rfl | rfl | rfl | rfl | rfl
  all_goals (simp [execOp, ho, hx', go_sem]; try exact h)
theorem op_putT {o : Oper} {a : Act} {w : World} {K : Act → World → Prop} {Q : Exit → Act → World → Prop} {x O j : Nat} {v0 : Value} (ho : o.op = .store 4 (.tmp x) (.const (.bool true))) (hx : a.tmps.getD x undef = .pointer (some ⟨O, j, none⟩)) (hc : w.cell? ⟨O, j, none⟩ = some v0) (hf : w.frozen? ⟨O, j, none⟩ = false) (h : K (a.put o.dst undef) (w.setCell ⟨O, j, none⟩ (.bool true))) : o.wp Tryz.prog a w K Q := by
  simp only [Array.getD_eq_getD_getElem?] at hx
  have hu := Tryz.underlying4
  have hsz := Tryz.sizeOf4
  have ha := Tryz.isAgg4
  unfold Oper.wp
  simp [execOp, ho, hx, go_sem, hsz, hc, hf]
  exact h
theorem op_loadP {o : Oper} {a : Act} {w : World} {K : Act → World → Prop} {Q : Exit → Act → World → Prop} {x T N j : Nat} {v : Value} (ho : o.op = .load T (.tmp x)) (ha : ∀ w, (isAgg T).run Tryz.prog w = .ok false w) (hu : ∃ d, Tryz.prog.underlying T = some d) (hs : ∀ w, (Go.sizeOf T).run Tryz.prog w = .ok 1 w) (hx : a.tmps.getD x undef = .pointer (some ⟨N, j, none⟩)) (hv : w.cell? ⟨N, j, none⟩ = some v) (h : K (a.put o.dst v) w) : o.wp Tryz.prog a w K Q := by
  have hx' : a.tmps[x]?.getD undef = .pointer (some ⟨N, j, none⟩) := by simpa using hx
  obtain ⟨d, hu⟩ := hu
  unfold Oper.wp
  simp [execOp, ho, hx', go_sem, ha, hs, hv]
  exact h
theorem op_index26 {o : Oper} {a : Act} {w : World} {K : Act → World → Prop} {Q : Exit → Act → World → Prop} {x i N k : Nat} {n c : Nat} (ho : o.op = .indexAddr 26 (.tmp x) (.const (.int .i64 i))) (hx : a.tmps.getD x undef = .slice (some ⟨N, k, none⟩) n c) (hi : i < n) (h : K (a.put o.dst (.pointer (some ⟨N, k + i, none⟩))) w) : o.wp Tryz.prog a w K Q := by
  have hx' : a.tmps[x]?.getD undef = .slice (some ⟨N, k, none⟩) n c := by simpa using hx
  have hs := Tryz.sizeOf9
  have hu := Tryz.underlying26
  have hi' : (i : Int) < n := by omega
  unfold Oper.wp
  simp [execOp, ho, hx', go_sem, hs, hu, hi']
  exact h
theorem op_loadA9 {o : Oper} {a : Act} {w : World} {K : Act → World → Prop} {Q : Exit → Act → World → Prop} {x : Nat} {A : Addr} {v : Value} (ho : o.op = .load 9 (.tmp x)) (hx : a.tmps.getD x undef = .pointer (some A)) (hv : w.cell? A = some v) (h : K (a.put o.dst v) w) : o.wp Tryz.prog a w K Q := by
  have hx' : a.tmps[x]?.getD undef = .pointer (some A) := by simpa using hx
  have ha := Tryz.isAgg9
  have hu := Tryz.underlying9
  have hs := Tryz.sizeOf9
  unfold Oper.wp
  simp [execOp, ho, hx', go_sem, ha, hs, hv]
  exact h
theorem op_lookup118 {o : Oper} {a : Act} {w : World} {K : Act → World → Prop} {Q : Exit → Act → World → Prop} {x y M : Nat} {s : ByteArray} {v : Value} (ho : o.op = .lookup 118 (.tmp x) (.tmp y) true) (hx : a.tmps.getD x undef = .map (some M)) (hy : a.tmps.getD y undef = .string s) (hl : (Instr.lookup 118 (.map (some M)) (.string s) true).run Tryz.prog w = .ok v w) (h : K (a.put o.dst v) w) : o.wp Tryz.prog a w K Q := by
  have hx' : a.tmps[x]?.getD undef = .map (some M) := by simpa using hx
  have hy' : a.tmps[y]?.getD undef = .string s := by simpa using hy
  unfold Oper.wp
  simp [execOp, ho, hx', hy', hl, go_sem]
  exact h
theorem op_extract {o : Oper} {a : Act} {w : World} {K : Act → World → Prop} {Q : Exit → Act → World → Prop} {x k : Nat} {vs : Array Value} {v : Value} (ho : o.op = .extract (.tmp x) k) (hx : a.tmps.getD x undef = .tuple vs) (hk : vs[k]? = some v) (h : K (a.put o.dst v) w) : o.wp Tryz.prog a w K Q := by
  have hx' : a.tmps[x]?.getD undef = .tuple vs := by simpa using hx
  unfold Oper.wp
  simp [execOp, ho, hx', hk, go_sem]
  exact h
theorem op_len26 {o : Oper} {a : Act} {w : World} {K : Act → World → Prop} {Q : Exit → Act → World → Prop} {x : Nat} {A : Option Addr} {n c : Nat} (ho : o.op = .call { callee := .builtin .len, args := #[.tmp x], argTypes := #[26] }) (hx : a.tmps.getD x undef = .slice A n c) (h : K (a.put o.dst (.int .i64 n)) w) : o.wp Tryz.prog a w K Q := by
  have hx' : a.tmps[x]?.getD undef = .slice A n c := by simpa using hx
  have hu := Tryz.underlying26
  unfold Oper.wp
  simp [execOp, ho, hx', go_sem, hu, resolve, invoke]
  exact h
end Go.Proofs.YtmfnholhhakgaaaGreatDoor
end
section
namespace Go.Proofs.YtmfnholhhakgaaaGreatDoor
open Go Go.Proofs Go.RowKit Go.Sort

/-- A row that the parser owns: its slice, the elements' type and cells, how many, and what it holds. -/
structure RowS where
  v : Value
  e : TypeId
  z : Nat
  n : Nat
  xs : List Value
/-- What a map of code.formats' names holds. -/
def OpsMap (o : Obj) : Prop := ∀ (w : World) (b : Nat), w.heap[b]? = some o → ∀ s : ByteArray, (Instr.lookup 118 (.map (some b)) (.string s) true).run Tryz.prog w = .ok (.tuple #[.int .i64 (opNum s), .bool (opNum s != 0)]) w
theorem size_setCell' (w : World) (a : Addr) (v : Value) : (w.setCell a v).heap.size = w.heap.size := by simp [World.setCell]
/-- Below block H nothing has turned but block X. -/
structure BelowX (X H : Nat) (w w' : World) : Prop where
  os : w'.os = w.os
  tape : w'.tape = w.tape
  output : w'.output = w.output
  size : w.heap.size ≤ w'.heap.size
  block : ∀ k, k < H → k ≠ X → w'.heap[k]? = w.heap[k]?
theorem BelowX.of {X H K : Nat} {w w' : World} (h : Below K w w') (hK : H ≤ K) : BelowX X H w w' := ⟨h.os, h.tape, h.output, h.size, fun k hk _ => h.block k (by omega)⟩
theorem BelowX.trans {X H : Nat} {a b c : World} (h : BelowX X H a b) (k : BelowX X H b c) : BelowX X H a c :=
  ⟨k.os.trans h.os, k.tape.trans h.tape, k.output.trans h.output, Nat.le_trans h.size k.size, fun i hi hx => (k.block i hi hx).trans (h.block i hi hx)⟩
theorem BelowX.then {X H K : Nat} {a b c : World} (h : BelowX X H a b) (k : Below K b c) (hK : H ≤ K) : BelowX X H a c := h.trans (BelowX.of k hK)
theorem BelowX.grown {X H : Nat} {a w w' : World} {row : Option Nat} (h : BelowX X H a w) (hg : w.grownBy w' row) (hB : H ≤ w.heap.size) (hr : ∀ k, row = some k → H ≤ k) : BelowX X H a w' :=
  h.trans ⟨hg.os, hg.tape, hg.output, hg.size, fun k hk _ => hg.block k (by omega) (fun e => by have := hr k e.symm; omega)⟩
theorem BelowX.setCell {X H : Nat} {a w : World} (h : BelowX X H a w) (j : Nat) (v : Value) : BelowX X H a (w.setCell ⟨X, j, none⟩ v) :=
  h.trans ⟨rfl, rfl, rfl, by rw [size_setCell']; exact Nat.le_refl _, fun k _ hk => Below.heap_setCell _ _ _ k hk⟩
theorem BelowX.below {X H B : Nat} {w w' : World} (h : BelowX X H w w') (hB : B ≤ X) (hX : X < H) : Below B w w' := ⟨h.os, h.tape, h.output, h.size, fun k hk => h.block k (by omega) (by omega)⟩
/-- The parser in its box Bp. -/
structure PInv (H Bp Mo Mf : Nat) (w : World) (g : Int) (R : List RowS) : Prop where
  lo : Bp < H
  hz : H ≤ w.heap.size
  box : w.heap[Bp]? = some (.cells (R.map RowS.v ++ [Value.int .i64 g, Value.map (some Mo), Value.map (some Mf)]).toArray 120 (0, 0))
  types : R.map RowS.e = [52, 78, 94, 28, 9, 99, 3]
  rows : ∀ (i : Nat) (r : RowS), R[i]? = some r → w.ownsRow H r.e r.z r.v r.n r.xs
  ops : ∃ ob, w.heap[Mo]? = some ob ∧ OpsMap ob ∧ ∀ cs t fr, ob ≠ .cells cs t fr
  forms : w.heap[Mf]? = some (fm 53)
theorem PInv.below {H Bp Mo Mf : Nat} {w w' : World} {g : Int} {R : List RowS} (I : PInv H Bp Mo Mf w g R) (hb : Below w.heap.size w w') : PInv H Bp Mo Mf w' g R :=
  { lo := I.lo, hz := Nat.le_trans I.hz hb.size, box := (hb.block _ (Array.getElem?_eq_some_iff.1 I.box).1).trans I.box, types := I.types, rows := fun i r h => own_below (I.rows i r h) hb
    ops := by obtain ⟨ob, h1, h2⟩ := I.ops; exact ⟨ob, (hb.block _ (Array.getElem?_eq_some_iff.1 h1).1).trans h1, h2⟩
    forms := (hb.block _ (Array.getElem?_eq_some_iff.1 I.forms).1).trans I.forms }
theorem types_at {R : List RowS} (h : R.map RowS.e = [52, 78, 94, 28, 9, 99, 3]) {i : Nat} {r : RowS} (hr : R[i]? = some r) : i < 7 ∧ r.e = [52, 78, 94, 28, 9, 99, 3].getD i 0 := by
  have h1 : (R.map RowS.e)[i]? = some r.e := by rw [List.getElem?_map, hr]; rfl
  rw [h] at h1
  obtain ⟨hi, e⟩ := List.getElem?_eq_some_iff.1 h1
  exact ⟨by simpa using hi, by rw [List.getD_eq_getElem?_getD, h1]; rfl⟩
theorem types_ne {i j : Nat} (hi : i < 7) (hj : j < 7) (h : i ≠ j) : ([52, 78, 94, 28, 9, 99, 3] : List Nat).getD i 0 ≠ [52, 78, 94, 28, 9, 99, 3].getD j 0 := by
  have key : ∀ i : Fin 7, ∀ j : Fin 7, i ≠ j → ([52, 78, 94, 28, 9, 99, 3] : List Nat).getD i.1 0 ≠ [52, 78, 94, 28, 9, 99, 3].getD j.1 0 := by decide
  exact key ⟨i, hi⟩ ⟨j, hj⟩ fun e => h (Fin.mk.inj e)
theorem types_box {i : Nat} (hi : i < 7) : 120 ≠ ([52, 78, 94, 28, 9, 99, 3] : List Nat).getD i 0 := by
  have key : ∀ i : Fin 7, 120 ≠ ([52, 78, 94, 28, 9, 99, 3] : List Nat).getD i.1 0 := by decide
  exact key ⟨i, hi⟩
theorem own_ne_obj {w : World} {base : Nat} {e : TypeId} {size : Nat} {v : Value} {n : Nat} {xs : List Value} {F : Nat} {ob : Obj} (h : w.ownsRow base e size v n xs) (hF : w.heap[F]? = some ob) (hno : ∀ cs t fr, ob ≠ .cells cs t fr) : some F ≠ v.ownBlock := by
  rcases h.2 with ⟨rfl, _⟩ | ⟨g, cap, cur, rfl, _, hg, _⟩
  · simp [Value.ownBlock]
  · intro e1
    have : F = g := by simpa [Value.ownBlock] using e1
    subst this
    rw [hg] at hF
    cases hF
    exact hno _ _ _ rfl
theorem PInv.keep {H Bp Mo Mf : Nat} {w w1 : World} {g : Int} {R : List RowS} (I : PInv H Bp Mo Mf w g R) {i : Nat} {r : RowS} (hr : R[i]? = some r) (hg : w.grownBy w1 r.v.ownBlock) :
    w1.heap[Bp]? = some (.cells (R.map RowS.v ++ [Value.int .i64 g, Value.map (some Mo), Value.map (some Mf)]).toArray 120 (0, 0)) ∧ (∃ ob, w1.heap[Mo]? = some ob ∧ OpsMap ob ∧ ∀ cs t fr, ob ≠ .cells cs t fr) ∧ w1.heap[Mf]? = some (fm 53) := by
  have ho := I.rows i r hr
  obtain ⟨hi, he⟩ := types_at I.types hr
  have h1 := (Array.getElem?_eq_some_iff.1 I.box).1
  have h2 := (Array.getElem?_eq_some_iff.1 I.forms).1
  obtain ⟨ob, hob, hop, hno⟩ := I.ops
  have h3 := (Array.getElem?_eq_some_iff.1 hob).1
  refine ⟨(hg.block Bp h1 (fun e => own_ne30 ho I.box (by rw [he]; exact types_box hi) e.symm)).trans I.box, ⟨ob, (hg.block Mo h3 (own_ne_obj ho hob hno)).trans hob, hop, hno⟩, (hg.block Mf h2 (own_ne_map ho I.forms)).trans I.forms⟩
/-- A row appended to, and its field stored anew. -/
theorem PInv.push {H Bp Mo Mf : Nat} {w w1 : World} {g : Int} {R : List RowS} (I : PInv H Bp Mo Mf w g R) (i : Nat) (r : RowS) (hr : R[i]? = some r) {v' : Value} {n' : Nat} {xs' : List Value} (ho : w1.ownsRow H r.e r.z v' n' xs') (hg : w.grownBy w1 r.v.ownBlock) :
    PInv H Bp Mo Mf (w1.setCell ⟨Bp, i, none⟩ v') g (R.set i ⟨v', r.e, r.z, n', xs'⟩) := by
  obtain ⟨hbox, ⟨ob, hob, hop, hno⟩, hfm⟩ := I.keep hr hg
  obtain ⟨hi, he⟩ := types_at I.types hr
  have hR := List.getElem?_eq_some_iff.1 hr
  have hne : ∀ {j : Nat} {o : Obj}, w1.heap[j]? = some o → (∀ cs t fr, o ≠ .cells cs t fr) → (w1.setCell ⟨Bp, i, none⟩ v').heap[j]? = some o := by
    intro j o hj h
    rw [Below.heap_setCell _ _ _ j (fun e => ?_)]
    · exact hj
    · have e' : j = Bp := e
      subst e'
      rw [hbox] at hj
      cases hj
      exact h _ _ _ rfl
  refine { lo := I.lo, hz := by rw [size_setCell']; exact Nat.le_trans I.hz hg.size, box := ?_, types := ?_, rows := ?_, ops := ⟨ob, hne hob hno, hop, hno⟩, forms := hne hfm (fun cs t fr e => by cases e) }
  · rw [heap_setCell_at hbox v', List.map_set]
    congr 2
    apply Array.toList_inj.1
    rw [Array.toList_setIfInBounds]
    rw [List.set_append_left _ _ (by simp; exact hR.1)]
  · rw [List.map_set, I.types]
    have e2 : (⟨v', r.e, r.z, n', xs'⟩ : RowS).e = [52, 78, 94, 28, 9, 99, 3].getD i 0 := he
    rw [e2]
    have key : ∀ i : Fin 7, ([52, 78, 94, 28, 9, 99, 3] : List Nat).set i.1 ([52, 78, 94, 28, 9, 99, 3].getD i.1 0) = [52, 78, 94, 28, 9, 99, 3] := by decide
    exact key ⟨i, hi⟩
  · intro j q hq
    by_cases hij : i = j
    · subst hij
      rw [List.getElem?_set_self hR.1] at hq
      cases hq
      exact own_setCell30 ho hbox (by rw [he]; exact types_box hi) v'
    · rw [List.getElem?_set_ne hij] at hq
      obtain ⟨hj, hje⟩ := types_at I.types hq
      exact own_setCell30 (own_kept_ty (I.rows j q hq) (I.rows i r hr) (by rw [he, hje]; exact types_ne hj hi (Ne.symm hij)) hg) hbox (by rw [hje]; exact types_box hj) v'
theorem PInv.group {H Bp Mo Mf : Nat} {w : World} {g : Int} {R : List RowS} (I : PInv H Bp Mo Mf w g R) (g' : Int) : PInv H Bp Mo Mf (w.setCell ⟨Bp, 7, none⟩ (.int .i64 g')) g' R := by
  obtain ⟨ob, hob, hop, hno⟩ := I.ops
  have hlen : R.length = 7 := by have := congrArg List.length I.types; simpa using this
  have hne : ∀ {j : Nat} {o : Obj}, w.heap[j]? = some o → (∀ cs t fr, o ≠ .cells cs t fr) → (w.setCell ⟨Bp, 7, none⟩ (.int .i64 g')).heap[j]? = some o := by
    intro j o hj h
    rw [Below.heap_setCell _ _ _ j (fun e => ?_)]
    · exact hj
    · have e' : j = Bp := e
      subst e'
      rw [I.box] at hj
      cases hj
      exact h _ _ _ rfl
  refine { lo := I.lo, hz := by rw [size_setCell']; exact I.hz, box := ?_, types := I.types, rows := ?_, ops := ⟨ob, hne hob hno, hop, hno⟩, forms := hne I.forms (fun cs t fr e => by cases e) }
  · rw [heap_setCell_at I.box]
    congr 2
    apply Array.toList_inj.1
    rw [Array.toList_setIfInBounds]
    rw [List.set_append_right _ _ (by simp [hlen])]
    simp [hlen]
  · intro j q hq
    obtain ⟨hj, hje⟩ := types_at I.types hq
    exact own_setCell30 (I.rows j q hq) I.box (by rw [hje]; exact types_box hj) _
/-- The parser's rows for a code. -/
def rowsP (v0 v1 v2 v3 v4 v5 v6 : Value) (sh : List SH) (c : CodeD) : List RowS :=
  [⟨v0, 52, 4, c.instrs.length, c.instrs.flatMap InstrD.cells⟩, ⟨v1, 78, 5, c.procs.length, c.procs.flatMap ProcD.cells⟩, ⟨v2, 94, 3, c.thunks.length, c.thunks.flatMap ThunkD.cells⟩, ⟨v3, 28, 1, sh.length, sh.map SH.v⟩,
   ⟨v4, 9, 1, c.strings.length, strCells c.strings⟩, ⟨v5, 99, 2, c.reals.length, c.reals.flatMap RealD.cells⟩, ⟨v6, 3, 1, c.owns.length, intCells c.owns⟩]
/-- The rows of the switches, and that no row of owns stands in their way. -/
structure PSw (H b6 : Nat) (w : World) (v6 : Value) (g : Int) (sh : List SH) (c : CodeD) : Prop where
  len : sh.length = c.switches.length
  own : ∀ (k : Nat) (x : SH) (l : List Int), sh[k]? = some x → c.switches[k]? = some l → w.ownsRow H 3 1 x.v l.length (intCells l) ∧ x.n = l.length ∧ ∀ q, x.v.ownBlock = some q → q < b6
  o6 : w.ownsRow b6 3 1 v6 c.owns.length (intCells c.owns)
  hH : H ≤ b6
  hb : b6 ≤ w.heap.size
  n6 : g < 5 → v6 = .slice none 0 0
/-- The parser has read the code c, and is in group g. -/
def PSt (H Bp Mo Mf : Nat) (w : World) (g : Int) (c : CodeD) : Prop :=
  ∃ v0 v1 v2 v3 v4 v5 v6 sh b6, PInv H Bp Mo Mf w g (rowsP v0 v1 v2 v3 v4 v5 v6 sh c) ∧ PSw H b6 w v6 g sh c
theorem PSw.below {H b6 : Nat} {w w' : World} {v6 : Value} {g : Int} {sh : List SH} {c : CodeD} (S : PSw H b6 w v6 g sh c) (hb : Below w.heap.size w w') : PSw H b6 w' v6 g sh c :=
  { len := S.len, own := fun k x l hx hl => ⟨own_below (S.own k x l hx hl).1 hb, (S.own k x l hx hl).2⟩, o6 := own_below S.o6 hb, hH := S.hH, hb := Nat.le_trans S.hb hb.size, n6 := S.n6 }
theorem PSt.below {H Bp Mo Mf : Nat} {w w' : World} {g : Int} {c : CodeD} (P : PSt H Bp Mo Mf w g c) (hb : Below w.heap.size w w') : PSt H Bp Mo Mf w' g c := by
  obtain ⟨v0, v1, v2, v3, v4, v5, v6, sh, b6, I, S⟩ := P
  exact ⟨v0, v1, v2, v3, v4, v5, v6, sh, b6, I.below hb, S.below hb⟩

theorem enter_ok (Bp : Nat) (g n : Int) (w : World) (hc : w.cell? ⟨Bp, 7, none⟩ = some (.int .i64 g)) (hf : w.frozen? ⟨Bp, 7, none⟩ = false) (h : g ≤ n) :
    Calls Tryz.prog 127 #[.pointer (some ⟨Bp, 0, none⟩), .int .i64 n] w fun e w' => e = .returned (.tuple #[]) ∧ w' = w.setCell ⟨Bp, 7, none⟩ (.int .i64 n) := by
  go_enter Tryz.func127, Tryz.ntmps127
  go_wp2
  all_goals first
    | (exfalso; have hx : n < g := by assumption; omega)
    | (go_end0; exact ⟨rfl, rfl⟩)
theorem enter_bad (Bp : Nat) (g n : Int) (w : World) (hc : w.cell? ⟨Bp, 7, none⟩ = some (.int .i64 g)) (h : n < g) :
    Calls Tryz.prog 127 #[.pointer (some ⟨Bp, 0, none⟩), .int .i64 n] w fun e w' => e = badP ∧ w' = w := by
  go_enter Tryz.func127, Tryz.ntmps127
  go_wp2
  exact ⟨rfl, rfl, rfl⟩
theorem rowsP_length (v0 v1 v2 v3 v4 v5 v6 : Value) (sh : List SH) (c : CodeD) : (rowsP v0 v1 v2 v3 v4 v5 v6 sh c).length = 7 := rfl
theorem PInv.cells {H Bp Mo Mf : Nat} {w : World} {g : Int} {v0 v1 v2 v3 v4 v5 v6 : Value} {sh : List SH} {c : CodeD} (I : PInv H Bp Mo Mf w g (rowsP v0 v1 v2 v3 v4 v5 v6 sh c)) :
    w.heap[Bp]? = some (.cells #[v0, v1, v2, v3, v4, v5, v6, .int .i64 g, .map (some Mo), .map (some Mf)] 120 (0, 0)) := I.box
theorem PInv.frozen {H Bp Mo Mf : Nat} {w : World} {g : Int} {R : List RowS} (I : PInv H Bp Mo Mf w g R) (j : Nat) : w.frozen? ⟨Bp, j, none⟩ = false := by
  have := I.box
  simp [World.frozen?, this]
end Go.Proofs.YtmfnholhhakgaaaGreatDoor
end
section
namespace Go.Proofs.YtmfnholhhakgaaaGreatDoor
open Go Go.Proofs Go.RowKit Go.Sort

theorem PSw.congr {H b6 : Nat} {w : World} {v6 : Value} {g : Int} {sh : List SH} {c c' : CodeD} (S : PSw H b6 w v6 g sh c) (h1 : c'.switches = c.switches) (h2 : c'.owns = c.owns) : PSw H b6 w v6 g sh c' :=
  { len := by rw [h1]; exact S.len, own := by rw [h1]; exact S.own, o6 := by rw [h2]; exact S.o6, hH := S.hH, hb := S.hb, n6 := S.n6 }
/-- A row of other elements than numbers is appended to. -/
theorem PSw.push {H b6 Bp Mo Mf : Nat} {w w1 : World} {v6 : Value} {g : Int} {sh : List SH} {c : CodeD} {R : List RowS} (S : PSw H b6 w v6 g sh c) (I : PInv H Bp Mo Mf w g R) {i : Nat} {r : RowS} (hr : R[i]? = some r) (he : 3 ≠ r.e) (hg : w.grownBy w1 r.v.ownBlock) (v' : Value) :
    PSw H b6 (w1.setCell ⟨Bp, i, none⟩ v') v6 g sh c := by
  have hbox := (I.keep hr hg).1
  have hk : ∀ {base size : Nat} {v : Value} {n : Nat} {xs : List Value}, w.ownsRow base 3 size v n xs → (w1.setCell ⟨Bp, i, none⟩ v').ownsRow base 3 size v n xs := fun h => own_setCell30 (own_kept_ty h (I.rows i r hr) he hg) hbox (by decide) v'
  exact { len := S.len, own := fun k x l hx hl => ⟨hk (S.own k x l hx hl).1, (S.own k x l hx hl).2⟩, o6 := hk S.o6, hH := S.hH, hb := by rw [size_setCell']; exact Nat.le_trans S.hb hg.size, n6 := S.n6 }
section
variable {H Bp Mo Mf b6 : Nat} {w w1 : World} {g : Int} {v0 v1 v2 v3 v4 v5 v6 v' : Value} {sh : List SH} {c : CodeD}
theorem pst_push0 (I : PInv H Bp Mo Mf w g (rowsP v0 v1 v2 v3 v4 v5 v6 sh c)) (S : PSw H b6 w v6 g sh c) {x : InstrD} (ho : w1.ownsRow H 52 4 v' (c.instrs.length + 1) (c.instrs.flatMap InstrD.cells ++ x.cells)) (hg : w.grownBy w1 v0.ownBlock) :
    PSt H Bp Mo Mf (w1.setCell ⟨Bp, 0, none⟩ v') g { c with instrs := c.instrs ++ [x] } := by
  have h1 := I.push 0 _ rfl ho hg
  have h2 := S.push I (i := 0) rfl (show 3 ≠ 52 by decide) hg v'
  exact ⟨v', v1, v2, v3, v4, v5, v6, sh, b6, by simpa [rowsP] using h1, h2.congr rfl rfl⟩
theorem pst_push1 (I : PInv H Bp Mo Mf w g (rowsP v0 v1 v2 v3 v4 v5 v6 sh c)) (S : PSw H b6 w v6 g sh c) {x : ProcD} (ho : w1.ownsRow H 78 5 v' (c.procs.length + 1) (c.procs.flatMap ProcD.cells ++ x.cells)) (hg : w.grownBy w1 v1.ownBlock) :
    PSt H Bp Mo Mf (w1.setCell ⟨Bp, 1, none⟩ v') g { c with procs := c.procs ++ [x] } := by
  have h1 := I.push 1 _ rfl ho hg
  have h2 := S.push I (i := 1) rfl (show 3 ≠ 78 by decide) hg v'
  exact ⟨v0, v', v2, v3, v4, v5, v6, sh, b6, by simpa [rowsP] using h1, h2.congr rfl rfl⟩
theorem pst_push2 (I : PInv H Bp Mo Mf w g (rowsP v0 v1 v2 v3 v4 v5 v6 sh c)) (S : PSw H b6 w v6 g sh c) {x : ThunkD} (ho : w1.ownsRow H 94 3 v' (c.thunks.length + 1) (c.thunks.flatMap ThunkD.cells ++ x.cells)) (hg : w.grownBy w1 v2.ownBlock) :
    PSt H Bp Mo Mf (w1.setCell ⟨Bp, 2, none⟩ v') g { c with thunks := c.thunks ++ [x] } := by
  have h1 := I.push 2 _ rfl ho hg
  have h2 := S.push I (i := 2) rfl (show 3 ≠ 94 by decide) hg v'
  exact ⟨v0, v1, v', v3, v4, v5, v6, sh, b6, by simpa [rowsP] using h1, h2.congr rfl rfl⟩
theorem pst_push4 (I : PInv H Bp Mo Mf w g (rowsP v0 v1 v2 v3 v4 v5 v6 sh c)) (S : PSw H b6 w v6 g sh c) {x : ByteArray} (ho : w1.ownsRow H 9 1 v' (c.strings.length + 1) (strCells c.strings ++ [.string x])) (hg : w.grownBy w1 v4.ownBlock) :
    PSt H Bp Mo Mf (w1.setCell ⟨Bp, 4, none⟩ v') g { c with strings := c.strings ++ [x] } := by
  have h1 := I.push 4 _ rfl ho hg
  have h2 := S.push I (i := 4) rfl (show 3 ≠ 9 by decide) hg v'
  exact ⟨v0, v1, v2, v3, v', v5, v6, sh, b6, by simpa [rowsP, strCells] using h1, h2.congr rfl rfl⟩
theorem pst_push5 (I : PInv H Bp Mo Mf w g (rowsP v0 v1 v2 v3 v4 v5 v6 sh c)) (S : PSw H b6 w v6 g sh c) {x : RealD} (ho : w1.ownsRow H 99 2 v' (c.reals.length + 1) (c.reals.flatMap RealD.cells ++ x.cells)) (hg : w.grownBy w1 v5.ownBlock) :
    PSt H Bp Mo Mf (w1.setCell ⟨Bp, 5, none⟩ v') g { c with reals := c.reals ++ [x] } := by
  have h1 := I.push 5 _ rfl ho hg
  have h2 := S.push I (i := 5) rfl (show 3 ≠ 99 by decide) hg v'
  exact ⟨v0, v1, v2, v3, v4, v', v6, sh, b6, by simpa [rowsP] using h1, h2.congr rfl rfl⟩
/-- A switch: its own row x has been made, and no row of owns is there. -/
theorem pst_push3 (I : PInv H Bp Mo Mf w g (rowsP v0 v1 v2 v3 v4 v5 v6 sh c)) (S : PSw H b6 w v6 g sh c) (hg5 : g < 5) {x : SH} {l : List Int} (ho : w1.ownsRow H 28 1 v' (sh.length + 1) (sh.map SH.v ++ [x.v])) (hg : w.grownBy w1 v3.ownBlock) (hx : w1.ownsRow H 3 1 x.v l.length (intCells l)) (hn : x.n = l.length) :
    PSt H Bp Mo Mf (w1.setCell ⟨Bp, 3, none⟩ v') g { c with switches := c.switches ++ [l] } := by
  have h1 := I.push 3 _ rfl ho hg
  have h2 := S.push I (i := 3) rfl (show 3 ≠ 28 by decide) hg v'
  have hbox := (I.keep (i := 3) rfl hg).1
  have hv6 := S.n6 hg5
  subst hv6
  have hc0 : c.owns = [] := by
    rcases S.o6.2 with ⟨_, h⟩ | ⟨_, _, _, e, _⟩
    · exact List.length_eq_zero_iff.1 h
    · cases e
  refine ⟨v0, v1, v2, v', v4, v5, .slice none 0 0, sh ++ [x], (w1.setCell ⟨Bp, 3, none⟩ v').heap.size, by simpa [rowsP] using h1, ?_⟩
  refine { len := by simp [h2.len], own := fun k y m hy hm => ?_, o6 := ?_, hH := Nat.le_trans h2.hH h2.hb, hb := Nat.le_refl _, n6 := fun _ => rfl }
  · rcases Nat.lt_or_ge k sh.length with h | h
    · rw [List.getElem?_append_left h] at hy
      rw [List.getElem?_append_left (by rw [← h2.len]; exact h)] at hm
      exact ⟨(h2.own k y m hy hm).1, (h2.own k y m hy hm).2.1, fun q hq => ((h2.own k y m hy hm).1.lt q hq).2⟩
    · rw [List.getElem?_append_right h] at hy
      rw [List.getElem?_append_right (by rw [← h2.len]; exact h)] at hm
      have hk : k - sh.length = 0 := by
        have := (List.getElem?_eq_some_iff.1 hy).1
        simp at this
        omega
      rw [hk] at hy
      rw [← h2.len, hk] at hm
      simp at hy hm
      subst hy hm
      have h3 := own_setCell30 hx hbox (by decide) (j := 3) v'
      exact ⟨h3, hn, fun q hq => (h3.lt q hq).2⟩
  · rw [hc0]
    exact World.ownsRow_nil _ _ _ _
/-- A number put behind the owns: base b of the row. -/
theorem pst_push6 (I : PInv H Bp Mo Mf w g (rowsP v0 v1 v2 v3 v4 v5 v6 sh c)) (S : PSw H b6 w v6 g sh c) (hg5 : ¬ g < 5) {x : Int} (ho : w1.ownsRow b6 3 1 v' (c.owns.length + 1) (intCells c.owns ++ [.int .i64 x])) (hg : w.grownBy w1 v6.ownBlock) (hz : b6 ≤ w1.heap.size) :
    PSt H Bp Mo Mf (w1.setCell ⟨Bp, 6, none⟩ v') g { c with owns := c.owns ++ [x] } := by
  have h1 := I.push 6 _ rfl (own_mono ho S.hH) hg
  have hbox := (I.keep (i := 6) rfl hg).1
  refine ⟨v0, v1, v2, v3, v4, v5, v', sh, b6, by simpa [rowsP, intCells] using h1, ?_⟩
  refine { len := S.len, own := fun k y m hy hm => ?_, o6 := ?_, hH := S.hH, hb := by rw [size_setCell']; exact hz, n6 := fun h => absurd h hg5 }
  · obtain ⟨h2, h3, h4⟩ := S.own k y m hy hm
    refine ⟨own_setCell30 (h2.kept hg ?_) hbox (by decide) v', h3, h4⟩
    cases hb : y.v.ownBlock with
    | none => exact .inl rfl
    | some q =>
      refine .inr fun e => ?_
      have h5 := h4 q hb
      have h6 := (S.o6.lt q e.symm).1
      omega
  · have := own_setCell30 ho hbox (by decide) (j := 6) v'
    simpa [intCells] using this
end
end Go.Proofs.YtmfnholhhakgaaaGreatDoor
end
section
namespace Go.Proofs.YtmfnholhhakgaaaGreatDoor
open Go Go.Proofs Go.RowKit Go.Sort

def spB : ByteArray := ⟨#[32]⟩
/-- The words of a line. -/
def wordsOf (s : ByteArray) : List ByteArray := Lib.splitB spB 0 (Lib.countB s spB) s
theorem split_any (s : ByteArray) (w : World) (B : Nat) (hv : Vars B w) (hs : s.size < 4294967281) :
    Calls Tryz.prog 126 #[.string s, .string ⟨#[32]⟩] w fun e w' => e = .returned (.slice (some ⟨w.heap.size, 0, none⟩) (wordsOf s).length (wordsOf s).length) ∧ w' = w.alloc (.cells (strCells (wordsOf s)).toArray 9) := by
  obtain ⟨m, hm⟩ := hv.idx
  refine (Any.strings_Split { Tryz.laysM146 with } Tryz.laysM146.i9 s ⟨#[32]⟩ m w hs hm (by decide)).mono ?_
  rintro e w' ⟨rfl, rfl⟩
  have hl : (wordsOf s).length = Lib.countB s ⟨#[32]⟩ + 1 := Lib.splitB_all ⟨#[32]⟩ (by decide) 0 _ s rfl
  rw [hl]
  exact ⟨rfl, rfl⟩
def restO (n : Nat) : Nat := if n = 0 then 0 else 1
theorem run_rest (N n : Nat) (w : World) : (Instr.slice 26 (.slice (some ⟨N, 0, none⟩) (n + 1) (n + 1)) (some (.int .i64 1)) none none).run Tryz.prog w = .ok (.slice (some ⟨N, restO n, none⟩) n n) w := by
  unfold restO
  have hs := Tryz.sizeOf9
  have hu := Tryz.underlying26
  cases n with
  | zero => simp [go_sem, hs, hu]
  | succ n =>
    simp [go_sem, hs, hu]
    intro h
    omega
/-- How the reading of a line ends: the parser has read c' and is in group g'; or the panic. -/
def LinePost (H Bp Mo Mf : Nat) (w : World) (out : Option (CodeD × Int)) (e : Ending) (w' : World) : Prop := match out with
  | some (c', g') => e = .returned (.tuple #[]) ∧ PSt H Bp Mo Mf w' g' c' ∧ BelowX Bp H w w'
  | none => e = badP ∧ BelowX Bp H w w'
theorem PSw.group {H b6 Bp Mo Mf : Nat} {w : World} {v6 : Value} {g g' : Int} {sh : List SH} {c : CodeD} {R : List RowS} (S : PSw H b6 w v6 g sh c) (I : PInv H Bp Mo Mf w g R) (h : g ≤ g') : PSw H b6 (w.setCell ⟨Bp, 7, none⟩ (.int .i64 g')) v6 g' sh c :=
  { len := S.len, own := fun k x l hx hl => ⟨own_setCell30 (S.own k x l hx hl).1 I.box (by decide) _, (S.own k x l hx hl).2⟩, o6 := own_setCell30 S.o6 I.box (by decide) _, hH := S.hH, hb := by rw [size_setCell']; exact S.hb, n6 := fun h5 => S.n6 (by omega) }
theorem below_cell {H Bp Mo Mf : Nat} {w0 w : World} {g : Int} {R : List RowS} (_ : PInv H Bp Mo Mf w g R) (hb : BelowX Bp H w0 w) (j : Nat) (v : Value) : BelowX Bp H w0 (w.setCell ⟨Bp, j, none⟩ v) := hb.setCell j v
/-- The words of a line lie in a block of the call's own. -/
theorem words_at (w : World) (ws : List ByteArray) (k : Nat) (x : ByteArray) (hx : ws[k]? = some x) : (w.alloc (.cells (strCells ws).toArray 9)).cell? ⟨w.heap.size, k, none⟩ = some (.string x) := by
  have := cell_of_row (w.alloc (.cells (strCells ws).toArray 9)) w.heap.size k _ 9 (0, 0) (heap_alloc_new w _)
  rw [this]
  simp [strCells, hx]
theorem rest_reads (w : World) (hd : ByteArray) (rest : List ByteArray) : Reads (w.alloc (.cells (strCells (hd :: rest)).toArray 9)) (w.heap.size + 1) 1 (some ⟨w.heap.size, restO rest.length, none⟩) rest.length (strCells rest) := by
  refine ⟨by simp [strCells], fun hn => ⟨_, rfl, by show w.heap.size < _; omega, fun j u hu => ?_⟩⟩
  have e : Addr.add ⟨w.heap.size, restO rest.length, none⟩ j = ⟨w.heap.size, j + 1, none⟩ := by
    unfold restO
    rw [if_neg (by omega)]
    unfold Addr.add
    split
    · subst_vars; rfl
    · simp [Nat.add_comm]
  unfold strCells at hu
  rw [List.getElem?_map] at hu
  cases hr : rest[j]? with
  | none => rw [hr] at hu; cases hu
  | some x =>
    rw [hr] at hu
    cases hu
    rw [e]
    exact words_at w (hd :: rest) (j + 1) x (by simpa using hr)
end Go.Proofs.YtmfnholhhakgaaaGreatDoor
end
