/- Print: lines and their iterator. -/
import Derived.Test.YtmfnholhhakgaaaGreatDoorMhm
import Derived.Test.YtmfnholhhakgaaaGreatDoorReh
import Derived.RangeFuncSeq
import Derived.OwnWalkIn
import Derived.TacticsInMore
import Derived.LoopIn
import Derived.LoopNIn
import Derived.Deep.DeepCutAuto
section
namespace Go.Proofs.YtmfnholhhakgaaaGreatDoor
open Go Go.Proofs Go.RowKit Go.Sort

theorem enters76 : Enters 76 := enters_of Tryz.func76 (by kernel_rfl) rfl
theorem enters119 : Enters 119 := enters_of Tryz.func119 (by kernel_rfl) rfl
theorem op_fieldAddrF {o : Oper} {a : Act} {w : World} {K : Act → World → Prop} {Q : Exit → Act → World → Prop} {x : Nat} (ho : o.op = .fieldAddr 85 (.tmp x) 0) {N : Nat} (hx : a.tmps.getD x undef = .pointer (some ⟨N, 0, none⟩))
    (h : K (a.put o.dst (.pointer (some ⟨N, 0, none⟩))) w) : o.wp Tryz.prog a w K Q := by
  have hx' : a.tmps[x]?.getD undef = .pointer (some ⟨N, 0, none⟩) := by simpa using hx
  unfold Oper.wp
  simp [execOp, ho, hx', go_sem]; try exact h
theorem op_load9 {o : Oper} {a : Act} {w : World} {K : Act → World → Prop} {Q : Exit → Act → World → Prop} {x : Nat} (ho : o.op = .load 9 (.tmp x)) {N j : Nat} {v : Value} (hx : a.tmps.getD x undef = .pointer (some ⟨N, j, none⟩)) (hv : w.cell? ⟨N, j, none⟩ = some v)
    (h : K (a.put o.dst v) w) : o.wp Tryz.prog a w K Q := by
  have hx' : a.tmps[x]?.getD undef = .pointer (some ⟨N, j, none⟩) := by simpa using hx
  have ha := Tryz.isAgg9
  have hu := Tryz.underlying9
  have hs := Tryz.sizeOf9
  unfold Oper.wp
  simp [execOp, ho, hx', go_sem, ha, hs, hv]
  exact h
theorem op_load85 {o : Oper} {a : Act} {w : World} {K : Act → World → Prop} {Q : Exit → Act → World → Prop} {x : Nat} (ho : o.op = .load 85 (.tmp x)) {N : Nat} {v0 v1 v2 v3 : Value} (hx : a.tmps.getD x undef = .pointer (some ⟨N, 0, none⟩))
    (h0 : w.cell? ⟨N, 0, none⟩ = some v0) (h1 : w.cell? ⟨N, 1, none⟩ = some v1) (h2 : w.cell? ⟨N, 2, none⟩ = some v2) (h3 : w.cell? ⟨N, 3, none⟩ = some v3)
    (h : K (a.put o.dst (.agg #[v0, v1, v2, v3])) w) : o.wp Tryz.prog a w K Q := by
  have hx' : a.tmps[x]?.getD undef = .pointer (some ⟨N, 0, none⟩) := by simpa using hx
  have ha := Tryz.isAgg85
  have hu := Tryz.underlying85
  have hs := Tryz.sizeOf85
  unfold Oper.wp
  simp [execOp, ho, hx', go_sem, ha, hs, h0, h1, h2, h3]
  exact h
theorem op_callMany {o : Oper} {a : Act} {w : World} {K : Act → World → Prop} {Q : Exit → Act → World → Prop} {x : Nat} (ho : o.op = .call { callee := .value (.func 76), args := #[.tmp x], argTypes := #[85] }) {s : ByteArray} {p q r : Int} (hx : a.tmps.getD x undef = .agg #[.string s, .int .i64 p, .int .i64 q, .int .i64 r])
    (h : ∀ w', Below w.heap.size w w' → K (a.put o.dst (.int .i64 (manyN p q r))) w') : o.wp Tryz.prog a w K Q := by
  have hx' : a.tmps[x]?.getD undef = .agg #[.string s, .int .i64 p, .int .i64 q, .int .i64 r] := by simpa using hx
  have he := enters76 #[.agg #[.string s, .int .i64 p, .int .i64 q, .int .i64 r]] w
  unfold Oper.wp
  simp [execOp, ho, resolve, invoke, hx', go_sem, he]
  refine Calls.mono (many_any s p q r w) ?_
  rintro e w' ⟨rfl, hb⟩
  exact h w' hb
theorem op_slice83 {o : Oper} {a : Act} {w : World} {K : Act → World → Prop} {Q : Exit → Act → World → Prop} {x y : Nat} (ho : o.op = .slice 83 (.tmp x) none (some (.tmp y)) none) {N : Nat} {n : Int} (hx : a.tmps.getD x undef = .pointer (some ⟨N, 0, none⟩)) (hy : a.tmps.getD y undef = .int .i64 n) (h0 : 0 ≤ n) (h3 : n ≤ 3)
    (h : K (a.put o.dst (.slice (some ⟨N, 0, none⟩) n.toNat 3)) w) : o.wp Tryz.prog a w K Q := by
  have hx' : a.tmps[x]?.getD undef = .pointer (some ⟨N, 0, none⟩) := by simpa using hx
  have hy' : a.tmps[y]?.getD undef = .int .i64 n := by simpa using hy
  unfold Oper.wp
  rcases (show n = 0 ∨ n = 1 ∨ n = 2 ∨ n = 3 from by omega) with rfl | rfl | rfl | rfl
  all_goals (simp [execOp, ho, hx', hy', go_sem, Tryz.underlying83, Tryz.sizeOf3]; try exact h)
theorem op_callRow {o : Oper} {a : Act} {w : World} {K : Act → World → Prop} {Q : Exit → Act → World → Prop} {x y : Nat} (ho : o.op = .call { callee := .value (.func 119), args := #[.tmp x, .tmp y], argTypes := #[9, 28] }) {s : ByteArray} {A : Option Addr} {n c B : Nat} {l : List Int} (hx : a.tmps.getD x undef = .string s) (hy : a.tmps.getD y undef = .slice A n c)
    (hr : Reads w B 1 A n (intCells l)) (hn : n = l.length) (hs : n ≤ 140737488351232) (hw : s.size ≤ 140737488351232) (hi : ∀ z ∈ l, I64 z) (hB : B ≤ w.heap.size) (ht : Pow w.heap.size w)
    (h : ∀ w', Below w.heap.size w w' → K (a.put o.dst (.string (rowS s l))) w') : o.wp Tryz.prog a w K Q := by
  have hx' : a.tmps[x]?.getD undef = .string s := by simpa using hx
  have hy' : a.tmps[y]?.getD undef = .slice A n c := by simpa using hy
  have he := enters119 #[.string s, .slice A n c] w
  unfold Oper.wp
  simp [execOp, ho, resolve, invoke, hx', hy', go_sem, he]
  refine Calls.mono (row_any s l A n c B w hr hn hs hw hi hB ht) ?_
  rintro e w' ⟨rfl, hb⟩
  exact h w' hb
theorem op_bs26 {o : Oper} {a : Act} {w : World} {K : Act → World → Prop} {Q : Exit → Act → World → Prop} {x : Nat} (ho : o.op = .buildSlice 26 1 #[(0, .tmp x)]) {s : ByteArray} (hx : a.tmps.getD x undef = .string s)
    (h : K (a.put o.dst (.slice (some ⟨w.heap.size, 0, none⟩) 1 1)) (w.alloc (.cells #[.string s] 9))) : o.wp Tryz.prog a w K Q := by
  simp only [Array.getD_eq_getD_getElem?] at hx
  have hu := Tryz.underlying26
  have hs := Tryz.sizeOf9
  have hz := Tryz.zeroValue9
  unfold Oper.wp
  simp [execOp, ho, hx, go_sem, hs, hz]
  exact h
theorem op_assign {o : Oper} {a : Act} {w : World} {K : Act → World → Prop} {Q : Exit → Act → World → Prop} {x : Nat} (ho : o.op = .assign (.tmp x)) {v : Value} (hx : a.tmps.getD x undef = v) (h : K (a.put o.dst v) w) : o.wp Tryz.prog a w K Q := by
  have hx' : a.tmps[x]?.getD undef = v := by simpa using hx
  unfold Oper.wp
  simp [execOp, ho, hx', go_sem]
  exact h

/-- X: the format's box; Y: the operands' box; M: the heap's size ahead of the region; v0: the list so far. -/
def IPred (H X Y M : Nat) (v0 : Value) (x : InstrD) (ls : List ByteArray) (i : Nat) (v : Value) (w : World) : Prop :=
  match i with
  | 0 => v = v0
  | 1 => v = .pointer (some ⟨X, 0, none⟩)
  | 2 => v = .string (opName x.op)
  | 3 => v = .agg #[.string (opName x.op), .int .i64 (opK0 x.op), .int .i64 (opK1 x.op), .int .i64 (opK2 x.op)]
  | 4 => v = .int .i64 (insN x)
  | 5 => v = .slice (some ⟨Y, 0, none⟩) (insN x).toNat 3
  | 6 => v = .string (insS x)
  | 7 => ∃ m : Nat, v = .slice (some ⟨m, 0, none⟩) 1 1 ∧ M ≤ m ∧ w.heap[m]? = some (.cells #[.string (insS x)] 9 (0, 0))
  | 8 => w.ownsRow H 9 1 v (ls.length + 1) (strCells ls ++ (#[.string (insS x)] : Array Value).toList)
  | _ => True
def IRel (v0 : Value) (i : Nat) (w w' : World) : Prop := (i ≠ 8 → Below w.heap.size w w') ∧ w.grownBy w' v0.ownBlock
theorem IPred.stab {H X Y M : Nat} {v0 : Value} {x : InstrD} {ls : List ByteArray} (hv : ∀ k, v0.ownBlock = some k → k < M) (i j : Nat) (v : Value) (w w' : World) (hij : i ≠ j) (hp : IPred H X Y M v0 x ls i v w) (hr : IRel v0 j w w') : IPred H X Y M v0 x ls i v w' := by
  unfold IPred at *
  split <;> (try exact hp)
  · obtain ⟨m, e, hm, hc⟩ := hp
    exact ⟨m, e, hm, (hr.2.block m (Array.getElem?_eq_some_iff.1 hc).1 (fun e => by have := hv m e.symm; omega)).trans hc⟩
  · exact own_below hp (hr.1 (Ne.symm hij))
  · trivial

theorem three_boxes (w : World) (o1 o2 o3 : Obj) : Below w.heap.size w (((w.alloc o1).alloc o2).alloc o3) ∧ (((w.alloc o1).alloc o2).alloc o3).heap[w.heap.size + 1]? = some o2 ∧ (((w.alloc o1).alloc o2).alloc o3).heap[w.heap.size + 1 + 1]? = some o3 ∧ (((w.alloc o1).alloc o2).alloc o3).heap.size = w.heap.size + 3 := by
  refine ⟨(((Below.refl _ w).alloc (Nat.le_refl _) o1).alloc (by simp) o2).alloc (by simp; omega) o3, ?_, ?_, by simp⟩
  · have h := heap_alloc_new (w.alloc o1) o2
    rw [World.size_alloc] at h
    exact (Below.heap_alloc _ _ _ (by simp)).trans h
  · have h := heap_alloc_new ((w.alloc o1).alloc o2) o3
    rw [World.size_alloc, World.size_alloc] at h
    exact h
theorem reads_ops {u : World} {Y : Nat} {x : InstrD} (h : u.heap[Y]? = some (.cells #[.int .i64 x.a, .int .i64 x.b, .int .i64 x.c] 83 (0, 0))) (B : Nat) (hB : Y < B) : Reads u B 1 (some ⟨Y, 0, none⟩) (insN x).toNat (intCells ([x.a, x.b, x.c].take (insN x).toNat)) := by
  have h3 := insN_le x
  refine ⟨by simp [intCells]; omega, fun _ => ⟨_, rfl, hB, fun j w hw => ?_⟩⟩
  have h4 := cell_of_row u Y j _ 83 (0, 0) h
  have e : Addr.add ⟨Y, 0, none⟩ j = ⟨Y, j, none⟩ := by unfold Addr.add; split <;> simp_all
  rw [e, h4]
  unfold intCells at hw
  rw [List.map_take, List.getElem?_take] at hw
  split at hw
  · simpa using hw
  · cases hw
theorem opName_size (n : Int) : (opName n).size ≤ 20 := by
  unfold opName opAt
  by_cases h : (1 : Int) ≤ n
  · rw [if_pos h]
    have hall : ∀ y ∈ fmtTab, (⟨y.1.toArray⟩ : ByteArray).size ≤ 20 := by decide
    cases hx : fmtTab[(n - 1).toNat]? with
    | none => exact Nat.zero_le _
    | some y => exact hall y (List.mem_of_getElem? hx)
  · rw [if_neg h]; exact Nat.zero_le _

theorem size_app (a b : ByteArray) : (a ++ b).size = a.size + b.size := ByteArray.size_append
theorem rowS_le {word : ByteArray} {l : List Int} (n m : Nat) (hi : ∀ x ∈ l, I64 x) (hw : word.size ≤ n) (hl : l.length ≤ m) : (rowS word l).size ≤ n + 22 * m := by
  have := rowS_size l word hi
  have := Nat.mul_le_mul_left 22 hl
  omega
/-- No line of a well-formed code is long. -/
theorem lines_size {w : World} {B : Nat} {h : CodeH} {c : CodeD} {rp : RealD → ByteArray} (H : CodeAt w B h c) (hf : fineB c (largeB h) = true) (hre : ∀ x ∈ c.reals, (rp x).size ≤ 1000) : ∀ x ∈ linesD rp c, x.size ≤ 100000 := by
  obtain ⟨hl, W⟩ := fine_well hf
  intro x hx
  unfold linesD at hx
  simp only [List.mem_append, List.mem_map] at hx
  rcases hx with (((((⟨y, hy, rfl⟩ | ⟨y, hy, rfl⟩) | ⟨y, hy, rfl⟩) | ⟨y, hy, rfl⟩) | ⟨y, hy, rfl⟩) | ⟨y, hy, rfl⟩) | ⟨y, hy, rfl⟩
  · obtain ⟨k, hk⟩ := List.getElem?_of_mem hy
    have := rowS_le (word := ⟨#[80, 82, 79, 67]⟩) 4 4 (proc_i64 H hf hk) (by decide) (by simp)
    cases hs : y.std with
    | true => rw [procS_std hs, size_app]; have e : (⟨#[32, 115, 116, 100]⟩ : ByteArray).size = 4 := rfl; omega
    | false => rw [procS_own hs]; omega
  · obtain ⟨k, hk⟩ := List.getElem?_of_mem hy
    have := rowS_le (word := ⟨#[84, 72, 85, 78, 75]⟩) 5 3 (thunk_i64 H hf hk) (by decide) (by simp)
    unfold thunkS
    omega
  · obtain ⟨k, hk⟩ := List.getElem?_of_mem hy
    have h2 := W.s y hy
    unfold switchOk wiB at h2
    simp at h2
    have := rowS_le (word := ⟨#[83, 87, 73, 84, 67, 72]⟩) (l := y) 6 2000 (sw_i64 H hf hk) (by decide) (by omega)
    unfold swS
    omega
  · have h2 := W.g y hy
    unfold strS
    rw [size_app, size_app]
    have e1 : (⟨#[83, 84, 82, 73, 78, 71, 32, 34]⟩ : ByteArray).size = 8 := rfl
    have e2 : (⟨#[34]⟩ : ByteArray).size = 1 := rfl
    unfold strOk at h2
    simp at h2
    omega
  · have := hre y hy
    unfold realS
    rw [size_app]
    have e1 : (⟨#[82, 69, 65, 76, 32]⟩ : ByteArray).size = 5 := rfl
    omega
  · obtain ⟨k, hk⟩ := List.getElem?_of_mem hy
    have := rowS_le (word := ⟨#[79, 87, 78]⟩) 3 1 (own_i64 H hf hk) (by decide) (by simp)
    unfold ownS
    omega
  · obtain ⟨k, hk⟩ := List.getElem?_of_mem hy
    have := rowS_le (word := opName y.op) (l := [y.a, y.b, y.c].take (insN y).toNat) 20 3 (fun z hz => ins_i64 H hf hk z (List.mem_of_mem_take hz)) (opName_size _) (by simp; omega)
    unfold insS
    omega
end Go.Proofs.YtmfnholhhakgaaaGreatDoor
end
section
namespace Go.Proofs.YtmfnholhhakgaaaGreatDoor
open Go Go.Proofs Go.RowKit Go.Sort
theorem take_map_snoc {α : Type} {f : α → ByteArray} {l : List α} {k : Nat} {x : α} (hx : l[k]? = some x) : (l.take (k + 1)).map f = (l.take k).map f ++ [f x] := by
  rw [List.take_add_one, hx]
  simp
theorem lines_room {w : World} {B : Nat} {h : CodeH} {c : CodeD} (H : CodeAt w B h c) (hf : fineB c (largeB h) = true) {l : List ByteArray} (hl : l.length ≤ c.procs.length + c.thunks.length + c.switches.length + c.strings.length + c.reals.length + c.owns.length + c.instrs.length) : l.length + 1 ≤ 1000000000000 := by
  obtain ⟨hl, _⟩ := fine_well hf
  obtain ⟨_, hi, hp, ht, hs, hg, hr, ho⟩ := large_sizes hl
  have e0 := H.ni.1
  have e1 := H.np.1
  have e2 := H.nt.1
  have e3 := H.ns.1
  have e4 := H.ng.1
  have e5 := H.nr.1
  have e6 := H.no.1
  omega
theorem lt_of_same {w w' : World} {p : Nat} (h : w'.heap[p]? = w.heap[p]?) (hp : p < w.heap.size) : p < w'.heap.size := by
  rw [Array.getElem?_eq_getElem hp] at h
  exact (Array.getElem?_eq_some_iff.1 h).1
set_option maxRecDepth 100000
set_option maxHeartbeats 16000000 in
theorem lines1_any (Bc l : Nat) (h : CodeH) (c : CodeD) (rp : RealD → ByteArray) (w : World) (H : CodeAt w w.heap.size h c) (fc : fineB c (largeB h) = true) (hB : CBox Bc h w) (ht : Pow w.heap.size w)
    (hre : ∀ x ∈ c.reals, (rp x).size ≤ 1000 ∧ ∀ W, Below w.heap.size w W → Calls Tryz.prog 120 #[.agg #[.int .i64 x.man, .int .i64 x.exp]] W fun e W' => ∃ er, e = .returned (.tuple #[.string (rp x), .int .i64 er]) ∧ Below W.heap.size W W')
    (J : Nat → Nat → World → Prop) (m : Nat)
    (hstart : ∀ W' p, Below w.heap.size w W' → w.heap.size ≤ p → p < W'.heap.size → J p 0 W')
    (hY : ∀ p k x W1, J p k W1 → p < W1.heap.size → (linesD rp c)[k]? = some x → YieldAt Fence.wide m Tryz.prog l #[.string (x ++ ⟨#[10]⟩)] W1 fun e W' => e = .returned (.bool true) ∧ J p (k + 1) W' ∧ W'.heap[p]? = W1.heap[p]?) :
    Calls Tryz.prog 118 (#[.func (.yield l) #[] #[]] ++ #[.pointer (some ⟨Bc, 0, none⟩)]) w fun e w' => (∃ v, e = .returned v) ∧ ∃ p, J p (linesD rp c).length w' := by
  have HC := Lib.hid H
  have HX0 := Lib.hid hB
  have HT := Lib.hid ht
  have HRE := Lib.hid hre
  have L0 := Lib.hid (LiI.start w)
  have f1 := hB.c1
  have HJS := Lib.hid hstart
  have HY := Lib.hid hY
  clear H hB ht hre hstart hY
  go_enter Tryz.func118, Tryz.ntmps118
  go_wp2
  clear f1
  go_loopw [3, 29] (fun v i wr => ∃ k : Nat, k ≤ h.p.n ∧ i = .int .i64 k ∧ LiI w.heap.size w wr v ((c.procs.take k).map procS)) (fun _ i _ => h.p.n - (intOf i).toNat)
  case atStart => exact ⟨0, by omega, rfl, by simpa using L0.out⟩
  case round =>
    obtain ⟨k, hk, rfl, hL⟩ := hrel
    have HL := Lib.hid hL
    clear hL L0
    by_cases hlt : k < h.p.n
    · have hn : h.p.n ≤ 140737488351232 := HC.out.np.2
      have HLN := Lib.hid (lines_room HC.out fc (l := (c.procs.take k).map procS) (by simp; omega))
      obtain ⟨ad, x, had, hx, hab, hc⟩ := Reads.elem (f := ProcD.cells) (fun _ => rfl) (HC.out.p.below HL.out.b) HC.out.np.1 hlt
      have c0 := hc 0 _ (by omega) rfl
      have c1 := hc 1 _ (by omega) rfl
      have c2 := hc 2 _ (by omega) rfl
      have c3 := hc 3 _ (by omega) rfl
      have c4 := hc 4 _ (by omega) rfl
      rw [show (ad.add (k * 5)).add 0 = ad.add (k * 5) from rfl] at c0
      rw [show (ad.add (k * 5)).add 1 = { block := (ad.add (k * 5)).block, off := (ad.add (k * 5)).off + 1 } from rfl] at c1
      rw [show (ad.add (k * 5)).add 2 = { block := (ad.add (k * 5)).block, off := (ad.add (k * 5)).off + 2 } from rfl] at c2
      rw [show (ad.add (k * 5)).add 3 = { block := (ad.add (k * 5)).block, off := (ad.add (k * 5)).off + 3 } from rfl] at c3
      rw [show (ad.add (k * 5)).add 4 = { block := (ad.add (k * 5)).block, off := (ad.add (k * 5)).off + 4 } from rfl] at c4
      rw [had]
      have HX := Lib.hid hx
      have HB := Lib.hid (proc_i64 HC.out fc hx)
      clear hc hx had hab
      cases hstd : x.std
      · have hz1 : (rowS ⟨#[80, 82, 79, 67]⟩ [x.entry, x.params, x.type, x.slots]).size ≤ 1000 := Nat.le_trans (rowS_size _ _ HB.out) (by show 4 + 22 * 4 ≤ 1000; decide)
        have HS := Lib.hid (procS_own hstd)
        have HD := Lib.hid hstd
        rw [hstd] at c4
        clear hstd
        go_wp2_with (first
          | (at_builtin; refine wpList_pushG elemStrs rfl _ _ rfl w.heap.size _ _ _ rfl HL3.out.r _ _ rfl (by first | rfl | simp) rfl (one_str _) HLN.out HL3.out.z ?_; intro v' w5 ho hg; have HL5 := Lib.hid (LiI.push HL3.out ho hg); clear ho hg)
          | (go_at_call 119; refine (row_new _ [x.entry, x.params, x.type, x.slots] _ _ _ _ rfl rfl (by simp) (by simp) (by decide) HB.out w.heap.size (HT.out.later (HL.out.b.alloc HL.out.z _)) (by have := HL.out.z; simp; omega)).mono ?_; rintro e w3 ⟨rfl, hb3⟩; have HQ := Lib.hid (((Below.refl wr.heap.size wr).alloc (Nat.le_refl _) _).trans (hb3.mono (by simp))); have HL3 := Lib.hid (HL.out.to HQ.out); have e4 : w3.cell? ⟨wr.heap.size, 4, none⟩ = some (.bool false) := (hb3.cell (p := ⟨wr.heap.size, 4, none⟩) (by simp)).trans (cell_of_row _ wr.heap.size _ _ _ (0, 0) (heap_alloc_new wr _)); clear hb3))
        rw [← HS.out] at HL5
        go_roundw
        case rel => exact ⟨k + 1, by omega, by go_num, by rw [take_map_snoc HX.out]; exact HL5.out⟩
        case measure => simp [intOf]; omega

      · have hz1 : (rowS ⟨#[80, 82, 79, 67]⟩ [x.entry, x.params, x.type, x.slots]).size ≤ 1000 := Nat.le_trans (rowS_size _ _ HB.out) (by show 4 + 22 * 4 ≤ 1000; decide)
        have HS := Lib.hid (procS_std hstd)
        have HD := Lib.hid hstd
        rw [hstd] at c4
        clear hstd
        go_wp2_with (first
          | (at_builtin; refine wpList_pushG elemStrs rfl _ _ rfl w.heap.size _ _ _ rfl HL3.out.r _ _ rfl (by first | rfl | simp) rfl (one_str _) HLN.out HL3.out.z ?_; intro v' w5 ho hg; have HL5 := Lib.hid (LiI.push HL3.out ho hg); clear ho hg)
          | (go_at_call 119; refine (row_new _ [x.entry, x.params, x.type, x.slots] _ _ _ _ rfl rfl (by simp) (by simp) (by decide) HB.out w.heap.size (HT.out.later (HL.out.b.alloc HL.out.z _)) (by have := HL.out.z; simp; omega)).mono ?_; rintro e w3 ⟨rfl, hb3⟩; have HQ := Lib.hid (((Below.refl wr.heap.size wr).alloc (Nat.le_refl _) _).trans (hb3.mono (by simp))); have HL3 := Lib.hid (HL.out.to HQ.out); have e4 : w3.cell? ⟨wr.heap.size, 4, none⟩ = some (.bool true) := (hb3.cell (p := ⟨wr.heap.size, 4, none⟩) (by simp)).trans (cell_of_row _ wr.heap.size _ _ _ (0, 0) (heap_alloc_new wr _)); clear hb3))
        rw [← HS.out] at HL5
        go_roundw
        case rel => exact ⟨k + 1, by omega, by go_num, by rw [take_map_snoc HX.out]; exact HL5.out⟩
        case measure => simp [intOf]; omega
    · obtain rfl : k = h.p.n := by omega
      rw [List.take_of_length_le (by have := HC.out.np.1; omega)] at HL
      have L1 := HL
      clear HL
      have f1 := (L1.out.b.cell (p := ⟨Bc, 2, none⟩) HX0.out.lt).trans HX0.out.c2
      go_wp2
      clear f1
      go_loopw [3, 55] (fun v i wr => ∃ k : Nat, k ≤ h.t.n ∧ i = .int .i64 k ∧ LiI w.heap.size w wr v (c.procs.map procS ++ (c.thunks.take k).map thunkS)) (fun _ i _ => h.t.n - (intOf i).toNat)
      case atStart => exact ⟨0, by omega, rfl, by simpa using L1.out⟩
      case round =>
        obtain ⟨k, hk, rfl, hL⟩ := hrel
        have HL := Lib.hid hL
        clear hL L1
        by_cases hlt : k < h.t.n
        · have hn : h.t.n ≤ 140737488351232 := HC.out.nt.2
          have HLN := Lib.hid (lines_room HC.out fc (l := c.procs.map procS ++ (c.thunks.take k).map thunkS) (by simp; omega))
          obtain ⟨ad, x, had, hx, hab, hc⟩ := Reads.elem (f := ThunkD.cells) (fun _ => rfl) (HC.out.t.below HL.out.b) HC.out.nt.1 hlt
          have c0 := hc 0 _ (by omega) rfl
          have c1 := hc 1 _ (by omega) rfl
          have c2 := hc 2 _ (by omega) rfl
          rw [show (ad.add (k * 3)).add 0 = ad.add (k * 3) from rfl] at c0
          rw [show (ad.add (k * 3)).add 1 = { block := (ad.add (k * 3)).block, off := (ad.add (k * 3)).off + 1 } from rfl] at c1
          rw [show (ad.add (k * 3)).add 2 = { block := (ad.add (k * 3)).block, off := (ad.add (k * 3)).off + 2 } from rfl] at c2
          rw [had]
          have HX := Lib.hid hx
          have HB := Lib.hid (thunk_i64 HC.out fc hx)
          clear hc hx had hab
          go_wp2_with (first
            | (at_builtin; refine wpList_pushG elemStrs rfl _ _ rfl w.heap.size _ _ _ rfl HL3.out.r _ _ rfl (by first | rfl | simp) rfl (one_str _) HLN.out HL3.out.z ?_; intro v' w5 ho hg; have HL5 := Lib.hid (LiI.push HL3.out ho hg); clear ho hg)
            | (go_at_call 119; refine (row_new _ [x.value, x.address, x.desig] _ _ _ _ rfl rfl (by simp) (by simp) (by decide) HB.out w.heap.size (HT.out.later (HL.out.b.alloc HL.out.z _)) (by have := HL.out.z; simp; omega)).mono ?_; rintro e w3 ⟨rfl, hb3⟩; have HQ := Lib.hid (((Below.refl wr.heap.size wr).alloc (Nat.le_refl _) _).trans (hb3.mono (by simp))); have HL3 := Lib.hid (HL.out.to HQ.out); clear hb3))
          go_roundw
          case rel => exact ⟨k + 1, by omega, by go_num, by rw [app_snoc HX.out]; exact HL5.out⟩
          case measure => simp [intOf]; omega
        · obtain rfl : k = h.t.n := by omega
          rw [app_all HC.out.nt.1] at HL
          have L2 := HL
          clear HL
          have f1 := (L2.out.b.cell (p := ⟨Bc, 3, none⟩) HX0.out.lt).trans HX0.out.c3
          go_wp2
          clear f1
          go_loopw [3, 74] (fun v i wr => ∃ k : Nat, k ≤ h.s.n ∧ i = .int .i64 k ∧ LiI w.heap.size w wr v (c.procs.map procS ++ c.thunks.map thunkS ++ (c.switches.take k).map swS)) (fun _ i _ => h.s.n - (intOf i).toNat)
          case atStart => exact ⟨0, by omega, rfl, by simpa using L2.out⟩
          case round =>
            obtain ⟨k, hk, rfl, hL⟩ := hrel
            have HL := Lib.hid hL
            clear hL L2
            by_cases hlt : k < h.s.n
            · have hn : h.s.n ≤ 140737488351232 := HC.out.ns.2
              have HLN := Lib.hid (lines_room HC.out fc (l := c.procs.map procS ++ c.thunks.map thunkS ++ (c.switches.take k).map swS) (by simp; omega))
              obtain ⟨ad, sx, x, had, hx, hab, c0, hr, hxl, hsm⟩ := (SwAt.below HC.out.s HL.out.b).elem HC.out.ns.1 hlt
              rw [had]
              have HX := Lib.hid hx
              have HR := Lib.hid hr
              have HXL := Lib.hid hxl
              have HB := Lib.hid (sw_i64 HC.out fc hx)
              clear hx had hab hr hxl
              go_wp2_with (first
                | (at_builtin; refine wpList_pushG elemStrs rfl _ _ rfl w.heap.size _ _ _ rfl HL3.out.r _ _ rfl (by first | rfl | simp) rfl (one_str _) HLN.out HL3.out.z ?_; intro v' w5 ho hg; have HL5 := Lib.hid (LiI.push HL3.out ho hg); clear ho hg)
                | (go_at_call 119; refine (row_any _ x _ _ _ _ _ HR.out HXL.out hsm (by decide) HB.out HL.out.z (HT.out.at HL.out.b HL.out.z)).mono ?_; rintro e w3 ⟨rfl, hb3⟩; have HL3 := Lib.hid (HL.out.to hb3); clear hb3))
              go_roundw
              case rel => exact ⟨k + 1, by omega, by go_num, by rw [app_snoc HX.out]; exact HL5.out⟩
              case measure => simp [intOf]; omega
            · obtain rfl : k = h.s.n := by omega
              rw [app_all HC.out.ns.1] at HL
              have L3 := HL
              clear HL
              have f1 := (L3.out.b.cell (p := ⟨Bc, 4, none⟩) HX0.out.lt).trans HX0.out.c4
              go_wp2
              clear f1
              go_loopw [3, 87] (fun v i wr => ∃ k : Nat, k ≤ h.g.n ∧ i = .int .i64 k ∧ LiI w.heap.size w wr v (c.procs.map procS ++ c.thunks.map thunkS ++ c.switches.map swS ++ (c.strings.take k).map strS)) (fun _ i _ => h.g.n - (intOf i).toNat)
              case atStart => exact ⟨0, by omega, rfl, by simpa using L3.out⟩
              case round =>
                obtain ⟨k, hk, rfl, hL⟩ := hrel
                have HL := Lib.hid hL
                clear hL L3
                by_cases hlt : k < h.g.n
                · have hn : h.g.n ≤ 140737488351232 := HC.out.ng.2
                  have HLN := Lib.hid (lines_room HC.out fc (l := c.procs.map procS ++ c.thunks.map thunkS ++ c.switches.map swS ++ (c.strings.take k).map strS) (by simp; omega))
                  obtain ⟨ad, x, had, hx, hab, c0⟩ := Reads.elem1 (f := Value.string) (HC.out.g.below HL.out.b) HC.out.ng.1 hlt
                  rw [had]
                  have HX := Lib.hid hx
                  have hz1 : x.size ≤ 140737488351232 := HC.out.zs x (List.mem_of_getElem? hx)
                  clear hx had hab
                  go_wp2_with (first
                    | (at_builtin; refine wpList_pushG elemStrs rfl _ _ rfl w.heap.size _ _ _ rfl HL.out.r _ _ rfl (by first | rfl | simp) rfl (one_str _) HLN.out HL.out.z ?_; intro v' w5 ho hg; have HL5 := Lib.hid (LiI.push HL.out ho hg); clear ho hg))
                  go_roundw
                  case rel => exact ⟨k + 1, by omega, by go_num, by rw [app_snoc HX.out]; exact HL5.out⟩
                  case measure => simp [intOf]; omega
                · obtain rfl : k = h.g.n := by omega
                  rw [app_all HC.out.ng.1] at HL
                  have L4 := HL
                  clear HL
                  have f1 := (L4.out.b.cell (p := ⟨Bc, 5, none⟩) HX0.out.lt).trans HX0.out.c5
                  go_wp2
                  clear f1
                  go_loopw [3, 101] (fun v i wr => ∃ k : Nat, k ≤ h.r.n ∧ i = .int .i64 k ∧ LiI w.heap.size w wr v (c.procs.map procS ++ c.thunks.map thunkS ++ c.switches.map swS ++ c.strings.map strS ++ (c.reals.take k).map (realS rp))) (fun _ i _ => h.r.n - (intOf i).toNat)
                  case atStart => exact ⟨0, by omega, rfl, by simpa using L4.out⟩
                  case round =>
                    obtain ⟨k, hk, rfl, hL⟩ := hrel
                    have HL := Lib.hid hL
                    clear hL L4
                    by_cases hlt : k < h.r.n
                    · have hn : h.r.n ≤ 140737488351232 := HC.out.nr.2
                      have HLN := Lib.hid (lines_room HC.out fc (l := c.procs.map procS ++ c.thunks.map thunkS ++ c.switches.map swS ++ c.strings.map strS ++ (c.reals.take k).map (realS rp)) (by simp; omega))
                      obtain ⟨ad, x, had, hx, hab, hc⟩ := Reads.elem (f := RealD.cells) (fun _ => rfl) (HC.out.r.below HL.out.b) HC.out.nr.1 hlt
                      have c0 := hc 0 _ (by omega) rfl
                      have c1 := hc 1 _ (by omega) rfl
                      rw [show (ad.add (k * 2)).add 0 = ad.add (k * 2) from rfl] at c0
                      rw [show (ad.add (k * 2)).add 1 = { block := (ad.add (k * 2)).block, off := (ad.add (k * 2)).off + 1 } from rfl] at c1
                      rw [had]
                      have HX := Lib.hid hx
                      have HB := Lib.hid (HRE.out x (List.mem_of_getElem? hx)).2
                      have hz1 := (HRE.out x (List.mem_of_getElem? hx)).1
                      clear hc hx had hab
                      go_wp2_with (first
                        | (at_builtin; refine wpList_pushG elemStrs rfl _ _ rfl w.heap.size _ _ _ rfl HL3.out.r _ _ rfl (by first | rfl | simp) rfl (one_str _) HLN.out HL3.out.z ?_; intro v' w5 ho hg; have HL5 := Lib.hid (LiI.push HL3.out ho hg); clear ho hg)
                        | (go_at_call 120; refine (HB.out _ (HL.out.b.trans (((Below.refl wr.heap.size wr).alloc (Nat.le_refl _) (.cells #[.int .i64 x.man, .int .i64 x.exp] 99)).mono HL.out.z))).mono ?_; rintro e w3 ⟨er, rfl, hb3⟩; have HQ := Lib.hid (((Below.refl wr.heap.size wr).alloc (Nat.le_refl _) (.cells #[.int .i64 x.man, .int .i64 x.exp] 99)).trans (hb3.mono (by simp))); have HL3 := Lib.hid (HL.out.to HQ.out); clear hb3))
                      go_roundw
                      case rel => exact ⟨k + 1, by omega, by go_num, by rw [app_snoc HX.out]; exact HL5.out⟩
                      case measure => simp [intOf]; omega
                    · obtain rfl : k = h.r.n := by omega
                      rw [app_all HC.out.nr.1] at HL
                      have L5 := HL
                      clear HL
                      have f1 := (L5.out.b.cell (p := ⟨Bc, 6, none⟩) HX0.out.lt).trans HX0.out.c6
                      go_wp2
                      clear f1
                      go_loopw [3, 119] (fun v i wr => ∃ k : Nat, k ≤ h.o.n ∧ i = .int .i64 k ∧ LiI w.heap.size w wr v (c.procs.map procS ++ c.thunks.map thunkS ++ c.switches.map swS ++ c.strings.map strS ++ c.reals.map (realS rp) ++ (c.owns.take k).map ownS)) (fun _ i _ => h.o.n - (intOf i).toNat)
                      case atStart => exact ⟨0, by omega, rfl, by simpa using L5.out⟩
                      case round =>
                        obtain ⟨k, hk, rfl, hL⟩ := hrel
                        have HL := Lib.hid hL
                        clear hL L5
                        by_cases hlt : k < h.o.n
                        · have hn : h.o.n ≤ 140737488351232 := HC.out.no.2
                          have HLN := Lib.hid (lines_room HC.out fc (l := c.procs.map procS ++ c.thunks.map thunkS ++ c.switches.map swS ++ c.strings.map strS ++ c.reals.map (realS rp) ++ (c.owns.take k).map ownS) (by simp; omega))
                          obtain ⟨ad, x, had, hx, hab, c0⟩ := Reads.elem1 (f := Value.int .i64) (HC.out.o.below HL.out.b) HC.out.no.1 hlt
                          rw [had]
                          have HX := Lib.hid hx
                          have HB := Lib.hid (own_i64 HC.out fc hx)
                          clear hx had hab
                          go_wp2_with (first
                            | (at_builtin; refine wpList_pushG elemStrs rfl _ _ rfl w.heap.size _ _ _ rfl HL3.out.r _ _ rfl (by first | rfl | simp) rfl (one_str _) HLN.out HL3.out.z ?_; intro v' w5 ho hg; have HL5 := Lib.hid (LiI.push HL3.out ho hg); clear ho hg)
                            | (go_at_call 119; refine (row_new _ [x] _ _ _ _ rfl rfl (by simp) (by simp) (by decide) HB.out w.heap.size (HT.out.later HL.out.b) HL.out.z).mono ?_; rintro e w3 ⟨rfl, hb3⟩; have HL3 := Lib.hid (HL.out.to hb3); clear hb3))
                          go_roundw
                          case rel => exact ⟨k + 1, by omega, by go_num, by rw [app_snoc HX.out]; exact HL5.out⟩
                          case measure => simp [intOf]; omega
                        · obtain rfl : k = h.o.n := by omega
                          rw [app_all HC.out.no.1] at HL
                          have L6 := HL
                          clear HL
                          have f1 := fun o => ((L6.out.b.alloc L6.out.z o).cell (p := ⟨Bc, 0, none⟩) HX0.out.lt).trans HX0.out.c0
                          go_wp2_with (go_at_call 44; refine (FmtIns.formats_any _).mono ?_; rintro e w3 ⟨rfl, rfl⟩)
                          clear f1
                          have HF7 := Lib.hid (heap_alloc_new wr (fm 53))
                          have L7 := Lib.hid (L6.out.to ((Below.refl _ _).alloc (Nat.le_refl _) (fm 53)))
                          have HZ := Lib.hid L6.out.z
                          clear L6
                          generalize wr.alloc (fm 53) = W7 at HF7 L7 ⊢
                          generalize wr.heap.size = F at HF7 HZ ⊢
                          go_loopw [3, 134] (fun v i wr => ∃ k : Nat, k ≤ h.i.n ∧ i = .int .i64 k ∧ LiI w.heap.size w wr v (c.procs.map procS ++ c.thunks.map thunkS ++ c.switches.map swS ++ c.strings.map strS ++ c.reals.map (realS rp) ++ c.owns.map ownS ++ (c.instrs.take k).map insS) ∧ wr.heap[F]? = some (fm 53)) (fun _ i _ => h.i.n - (intOf i).toNat)
                          case atStart => exact ⟨0, by omega, rfl, by simpa using L7.out, HF7.out⟩
                          case round =>
                            obtain ⟨k, hk, rfl, hL, hF⟩ := hrel
                            have HL := Lib.hid hL
                            have HF := Lib.hid hF
                            clear hL hF L7 HF7
                            by_cases hlt : k < h.i.n
                            · have hn : h.i.n ≤ 140737488351232 := HC.out.ni.2
                              have HLN := Lib.hid (lines_room HC.out fc (l := c.procs.map procS ++ c.thunks.map thunkS ++ c.switches.map swS ++ c.strings.map strS ++ c.reals.map (realS rp) ++ c.owns.map ownS ++ (c.instrs.take k).map insS) (by simp; omega))
                              obtain ⟨ad, x, had, hx, hab, hc⟩ := Reads.elem (f := InstrD.cells) (fun _ => rfl) (HC.out.i.below HL.out.b) HC.out.ni.1 hlt
                              have c0 := hc 0 _ (by omega) rfl
                              have c1 := hc 1 _ (by omega) rfl
                              have c2 := hc 2 _ (by omega) rfl
                              have c3 := hc 3 _ (by omega) rfl
                              rw [show (ad.add (k * 4)).add 0 = ad.add (k * 4) from rfl] at c0
                              rw [show (ad.add (k * 4)).add 1 = { block := (ad.add (k * 4)).block, off := (ad.add (k * 4)).off + 1 } from rfl] at c1
                              rw [show (ad.add (k * 4)).add 2 = { block := (ad.add (k * 4)).block, off := (ad.add (k * 4)).off + 2 } from rfl] at c2
                              rw [show (ad.add (k * 4)).add 3 = { block := (ad.add (k * 4)).block, off := (ad.add (k * 4)).off + 3 } from rfl] at c3
                              rw [had]
                              have HX := Lib.hid hx
                              have HB := Lib.hid (ins_i64 HC.out fc hx)
                              clear hc hx had hab
                              have l1 := fun o1 => look_fmt1 (w := wr.alloc o1) (b := F) ((Below.heap_alloc wr o1 F (Array.getElem?_eq_some_iff.1 HF.out).1).trans HF.out) x.op
                              go_wp2
                              clear l1 c0 c1 c2 c3
                              have h3 := three_boxes wr (.cells #[.int .i64 x.op, .int .i64 x.a, .int .i64 x.b, .int .i64 x.c] 52) (.cells #[.string (opName x.op), .int .i64 (opK0 x.op), .int .i64 (opK1 x.op), .int .i64 (opK2 x.op)] 85) (.cells #[.int .i64 x.a, .int .i64 x.b, .int .i64 x.c] 83)
                              have HL3 := Lib.hid (HL.out.to h3.1)
                              have HX1 := Lib.hid h3.2.1
                              have HX2 := Lib.hid h3.2.2.1
                              have HF3 := Lib.hid ((h3.1.block F (Array.getElem?_eq_some_iff.1 HF.out).1).trans HF.out)
                              have HRL : Hid (∀ q, u3.ownBlock = some q → q < wr.heap.size) := Lib.hid (fun q hq => (HL.out.r.lt q hq).2)
                              have HSZ := Lib.hid h3.2.2.2
                              clear h3 HL HF
                              generalize ((wr.alloc (.cells #[.int .i64 x.op, .int .i64 x.a, .int .i64 x.b, .int .i64 x.c] 52)).alloc (.cells #[.string (opName x.op), .int .i64 (opK0 x.op), .int .i64 (opK1 x.op), .int .i64 (opK2 x.op)] 85)).alloc (.cells #[.int .i64 x.a, .int .i64 x.b, .int .i64 x.c] 83) = W3 at HL3 HX1 HX2 HF3 HSZ ⊢
                              have HRM : Hid (∀ q, u3.ownBlock = some q → q < W3.heap.size) := Lib.hid (fun q hq => by have := HRL.out q hq; have := HSZ.out; omega)
                              refine wp_region_list2 (by kernel_rfl) (by kernel_rfl) (fun L w' => W3.grownBy w' u3.ownBlock ∧ (L.getD 8 false = false → Below W3.heap.size W3 w')) (IRel u3) (IPred w.heap.size (wr.heap.size + 1) (wr.heap.size + 1 + 1) W3.heap.size u3 x (c.procs.map procS ++ c.thunks.map thunkS ++ c.switches.map swS ++ c.strings.map strS ++ c.reals.map (realS rp) ++ c.owns.map ownS ++ (c.instrs.take k).map insS)) ⟨grownBy_below' ((Below.refl _ _).drew), fun _ => (Below.refl _ _).drew⟩ (IPred.stab HRM.out) ?_ ?_
                              · have GN : ∀ (L : Array Bool) (i : Nat) (u : World), i ≠ 8 → (W3.grownBy u u3.ownBlock ∧ (L.getD 8 false = false → Below W3.heap.size W3 u)) → (W3.grownBy u u3.ownBlock ∧ ((L.setIfInBounds i true).getD 8 false = false → Below W3.heap.size W3 u)) := fun L i u hi h => ⟨h.1, fun e => h.2 (by rwa [getD_set_ne false hi] at e)⟩
                                have HRR : ∀ i u, IRel u3 i u u := fun i u => ⟨fun _ => Below.refl _ _, grownBy_below' (Below.refl _ _)⟩
                                have hNB : ∀ u, W3.grownBy u u3.ownBlock → Below w.heap.size W3 u := fun u hu => (Below.refl w.heap.size W3).grown hu HL3.out.z (fun q hq => (HL3.out.r.lt q hq).1)
                                have hBX : ∀ u, W3.grownBy u u3.ownBlock → u.heap[wr.heap.size + 1]? = some (.cells #[.string (opName x.op), .int .i64 (opK0 x.op), .int .i64 (opK1 x.op), .int .i64 (opK2 x.op)] 85 (0, 0)) := fun u hu => (hu.block _ (Array.getElem?_eq_some_iff.1 HX1.out).1 (fun e => by have := HRL.out _ e.symm; omega)).trans HX1.out
                                have hBY : ∀ u, W3.grownBy u u3.ownBlock → u.heap[wr.heap.size + 1 + 1]? = some (.cells #[.int .i64 x.a, .int .i64 x.b, .int .i64 x.c] 83 (0, 0)) := fun u hu => (hu.block _ (Array.getElem?_eq_some_iff.1 HX2.out).1 (fun e => by have := HRL.out _ e.symm; omega)).trans HX2.out
                                refine ⟨?_, ?_, ?_, ?_, ?_, ?_, ?_, ?_, ?_, trivial⟩
                                · intro a' u listed hls hl0 hg hd hs
                                  exact op_move rfl ((hs.2.2 3 (notDst2 (by kernel_rfl))).trans rfl) ⟨_, rfl, GN _ _ _ (by decide) hg, HRR _ _, fun h => (by cases h), rfl⟩
                                · intro a' u listed hls hl0 hg hd hs
                                  exact op_fieldAddrF rfl ((hs.2.2 22 (notDst2 (by kernel_rfl))).trans rfl) ⟨_, rfl, GN _ _ _ (by decide) hg, HRR _ _, fun h => (by cases h), rfl⟩
                                · intro a' u listed hls hl0 hg hd hs
                                  exact op_load9 rfl (hd 1 (by kernel_rfl)) (cell_of_row u _ 0 _ 85 (0, 0) (hBX u hg.1)) ⟨_, rfl, GN _ _ _ (by decide) hg, HRR _ _, fun h => (by cases h), rfl⟩
                                · intro a' u listed hls hl0 hg hd hs
                                  exact op_load85 rfl ((hs.2.2 22 (notDst2 (by kernel_rfl))).trans rfl) (cell_of_row u _ 0 _ 85 (0, 0) (hBX u hg.1)) (cell_of_row u _ 1 _ 85 (0, 0) (hBX u hg.1)) (cell_of_row u _ 2 _ 85 (0, 0) (hBX u hg.1)) (cell_of_row u _ 3 _ 85 (0, 0) (hBX u hg.1)) ⟨_, rfl, GN _ _ _ (by decide) hg, HRR _ _, fun h => (by cases h), rfl⟩
                                · intro a' u listed hls hl0 hg hd hs
                                  exact op_callMany rfl (hd 3 (by kernel_rfl)) fun w' hb => ⟨_, rfl, ⟨grownBy_trans' hg.1 (grownBy_below' hb), fun e => (hg.2 (by rwa [getD_set_ne false (by decide)] at e)).trans (hb.mono hg.1.size)⟩, ⟨fun _ => hb, grownBy_below' hb⟩, fun h => (by cases h), rfl⟩
                                · intro a' u listed hls hl0 hg hd hs
                                  exact op_slice83 rfl ((hs.2.2 23 (notDst2 (by kernel_rfl))).trans rfl) (hd 4 (by kernel_rfl)) (insN_le x).1 (insN_le x).2 ⟨_, rfl, GN _ _ _ (by decide) hg, HRR _ _, fun h => (by cases h), rfl⟩
                                · intro a' u listed hls hl0 hg hd hs
                                  have hsz : W3.heap.size ≤ u.heap.size := hg.1.size
                                  exact op_callRow (B := W3.heap.size) rfl (hd 2 (by kernel_rfl)) (hd 5 (by kernel_rfl)) (reads_ops (hBY u hg.1) _ (by have := HSZ.out; omega)) (by have := insN_le x; simp; omega) (by have := insN_le x; omega) (by have := opName_size x.op; omega) (fun z hz => HB.out z (List.mem_of_mem_take hz)) hsz (HT.out.at (HL3.out.b.trans (hNB u hg.1)) (by have := HL3.out.z; omega)) fun w' hb => ⟨_, rfl, ⟨grownBy_trans' hg.1 (grownBy_below' hb), fun e => (hg.2 (by rwa [getD_set_ne false (by decide)] at e)).trans (hb.mono hg.1.size)⟩, ⟨fun _ => hb, grownBy_below' hb⟩, fun h => (by cases h), rfl⟩
                                · intro a' u listed hls hl0 hg hd hs
                                  have hal : Below u.heap.size u (u.alloc (.cells #[.string (insS x)] 9)) := (Below.refl _ u).alloc (Nat.le_refl _) _
                                  exact op_bs26 rfl (hd 6 (by kernel_rfl)) ⟨_, rfl, ⟨grownBy_trans' hg.1 (grownBy_below' hal), fun e => (hg.2 (by rwa [getD_set_ne false (by decide)] at e)).trans (hal.mono hg.1.size)⟩, ⟨fun _ => hal, grownBy_below' hal⟩, fun h => (by cases h), u.heap.size, rfl, hg.1.size, heap_alloc_new u _⟩
                                · intro a' u listed hls hl0 hg hd hs
                                  obtain ⟨m, e, hm, hc⟩ := hd 7 (by kernel_rfl)
                                  have hrow := own_below HL3.out.r (hg.2 hl0)
                                  refine op_append elemStrs rfl w.heap.size u3 _ _ (hd 0 (by kernel_rfl)) hrow _ m e rfl hc (one_str _) HLN.out (by have := HL3.out.z; have := hg.1.size; omega) ?_
                                  intro v' w' ho hgr
                                  have hset : (listed.setIfInBounds 8 true).getD 8 false = true := by simp [hls]
                                  exact ⟨_, rfl, ⟨grownBy_trans' hg.1 hgr, fun e => by rw [hset] at e; cases e⟩, ⟨fun h => absurd rfl h, hgr⟩, fun h => (by cases h), ho⟩
                              · intro o ho a' u listed hg hp hs
                                obtain rfl := Option.some.inj ho
                                have p8 := hp 8 (by decide)
                                change u.ownsRow w.heap.size 9 1 (a'.tmps.getD 157 undef) _ _ at p8
                                have HE := Lib.hid (LiI.push HL3.out p8 hg.1)
                                have HF5 := Lib.hid ((hg.1.block F (Array.getElem?_eq_some_iff.1 HF3.out).1 (own_ne_map HL3.out.r HF3.out)).trans HF3.out)
                                refine op_assign rfl rfl ?_
                                have ha := act_all hs [149, 150, 151, 152, 153, 154, 155, 156, 157] (by kernel_rfl) (by kernel_rfl)
                                simp only [List.map_cons, List.map_nil] at ha
                                change Exit.inBlock _ _ .normal (a'.put (some 3) (a'.tmps.getD 157 undef)) u
                                generalize a'.tmps.getD 149 undef = t149 at ha
                                generalize a'.tmps.getD 150 undef = t150 at ha
                                generalize a'.tmps.getD 151 undef = t151 at ha
                                generalize a'.tmps.getD 152 undef = t152 at ha
                                generalize a'.tmps.getD 153 undef = t153 at ha
                                generalize a'.tmps.getD 154 undef = t154 at ha
                                generalize a'.tmps.getD 155 undef = t155 at ha
                                generalize a'.tmps.getD 156 undef = t156 at ha
                                generalize a'.tmps.getD 157 undef = t157 at ha HE ⊢
                                rw [ha]
                                simp only [List.foldl_cons, List.foldl_nil, Act.put, List.setIfInBounds_toArray, List.set_cons_succ, List.set_cons_zero]
                                clear ha hp hs p8 hg HL3 HX1 HX2 HF3 HRL HRM HSZ HLN
                                go_wp2
                                go_roundw
                                case rel => exact ⟨k + 1, by omega, by go_num, by rw [app_snoc HX.out]; exact HE.out, HF5.out⟩
                                case measure => simp [intOf]; omega
                            · obtain rfl : k = h.i.n := by omega
                              rw [app_all HC.out.ni.1] at HL
                              have HD : Hid (LiI w.heap.size w wr u3 (linesD rp c)) := HL
                              have hpos : 0 < (linesD rp c).length := by
                                have := (large_sizes (fine_well fc).1).1
                                have := HC.out.ni.1
                                simp [linesD]
                                omega
                              have HN : Hid ((linesD rp c).length + 1 ≤ 1000000000000) := Lib.hid (lines_room HC.out fc (l := linesD rp c) (by simp [linesD]; omega))
                              clear HL HF HT
                              obtain ⟨g, cap, rfl, hg1, hg2⟩ := HD.out.r.form hpos
                              have HG : Hid (∀ (j : Nat) (u : Value), (strCells (linesD rp c))[j]? = some u → wr.cell? ⟨g, j, none⟩ = some u) := Lib.hid (fun j u hu => by have := HD.out.r.cells (g := g) rfl j u hu; rwa [show Addr.add ⟨g, 0, none⟩ j = ⟨g, j, none⟩ from by unfold Addr.add; split <;> simp_all] at this)
                              have HJ0 := HJS.out wr g HD.out.b hg1 hg2
                              have HSI := Lib.hid (lines_size HC.out fc fun x hx => (HRE.out x hx).1)
                              have hn : (linesD rp c).length ≤ 1000000000000 := by have := HN.out; omega
                              clear hpos HD HN HRE
                              generalize hLL : linesD rp c = LL at *
                              have HLL := Lib.hid hLL
                              clear hLL
                              go_wp2
                              refine (wpIn_wide (n := m + 1)).1 ?_
                              obtain ⟨wo, rfl⟩ : ∃ wo : World, wo = wr := ⟨_, rfl⟩
                              gi_loopw [161] (fun i wr => ∃ k : Nat, k ≤ LL.length ∧ i = .int .i64 k ∧ J g k wr ∧ wr.heap[g]? = wo.heap[g]? ∧ g < wr.heap.size) (fun i _ => LL.length - (intOf i).toNat)
                              case atStart => exact ⟨0, by omega, rfl, HJ0, rfl, hg2⟩
                              case round =>
                                obtain ⟨k, hk, rfl, hJ, hgk, hzk⟩ := hrel
                                have HGK := Lib.hid hgk
                                clear hgk
                                by_cases hlt : k < LL.length
                                · have hx : LL[k]? = some LL[k] := List.getElem?_eq_getElem hlt
                                  have hs := HSI.out LL[k] (List.getElem_mem hlt)
                                  have hc : wr.cell? ⟨g, k, none⟩ = some (.string LL[k]) := (World.cell?_of_block HGK.out).trans (HG.out k _ (by simp [strCells, hx]))
                                  obtain ⟨fn, tmps, assign, body, hy, hR⟩ := HY.out g k LL[k] wr hJ hzk hx
                                  clear hx
                                  generalize LL[k] = x at hs hc hy hR ⊢
                                  have HRR := Lib.hid hR
                                  clear hR
                                  gi_wp2
                                  refine HRR.out.mono ?_
                                  rintro e W3 ⟨rfl, hJ3, hg3⟩
                                  have HG3 := Lib.hid (hg3.trans HGK.out)
                                  have hz3 : g < W3.heap.size := lt_of_same hg3 hzk
                                  clear hg3 HRR hy
                                  gi_wp2
                                  go_roundw
                                  case rel => exact ⟨k + 1, by omega, by go_num, hJ3, HG3.out, hz3⟩
                                  case measure => simp [intOf]; omega
                                · obtain rfl : k = LL.length := by omega
                                  gi_wp2
                                  go_end0
                                  exact ⟨⟨_, rfl⟩, g, by rw [HLL.out]; exact hJ⟩
end Go.Proofs.YtmfnholhhakgaaaGreatDoor
end
