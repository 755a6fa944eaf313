/- Sorting and compacting an own slice; fine; SameInts; Next. -/
import Derived.Test.YtmfnholhhakgaaaGreatDoorChk
import Derived.Test.YtmfnholhhakgaaaGreatDoorMhf
import Derived.Lib.OwnBridge
import Derived.Lib.SortBridge
import Derived.BigQuiet
section
namespace Go.Proofs.YtmfnholhhakgaaaGreatDoor
open Go Go.Proofs Go.RowKit Go.Sort

/-- The list sorted. -/
def sortL (l : List Int) : List Int := l.mergeSort fun x y => decide (x ≤ y)
theorem sortL_length (l : List Int) : (sortL l).length = l.length := by simp [sortL]
/-- A slice cut to its first k elements. -/
def cutTo (v : Value) (k : Nat) : Value := match v with
  | .slice a _ c => .slice a k c
  | v => v

theorem own_grow {w : World} {base : Nat} {e : TypeId} {size : Nat} {v : Value} {n : Nat} {xs : List Value} (h : w.ownsRow base e size v n xs) (os : Array Obj) : (grow w os).ownsRow base e size v n xs := by
  refine ⟨h.1, ?_⟩
  rcases h.2 with h2 | ⟨g, cap, cur, rfl, hb, hg, h3⟩
  · exact .inl h2
  · exact .inr ⟨g, cap, cur, rfl, hb, by rw [heap_grow_old _ _ (Array.getElem?_eq_some_iff.1 hg).1]; exact hg, h3⟩
theorem below_grow' {B : Nat} {w0 w : World} (h : Below B w0 w) (hB : B ≤ w.heap.size) (os : Array Obj) : Below B w0 (grow w os) :=
  h.trans ⟨rfl, rfl, rfl, by simp [grow], fun k hk => heap_grow_old _ _ (by omega)⟩

/-- slices.Sort of a row that the call owns. -/
theorem sort_own (base : Nat) (v : Value) (zs : List Int) (w : World) (h : w.ownsRow base 3 1 v zs.length (zs.map (Value.int .i64))) (hn : zs.length < 4611686018427387904) :
    Calls Tryz.prog 136 #[v] w fun e w' => e = .returned (.tuple #[]) ∧ w'.ownsRow base 3 1 v (sortL zs).length ((sortL zs).map (Value.int .i64)) ∧ Below base w w' := by
  rw [sortL_length]
  by_cases hv : v = .slice none 0 0
  · subst hv
    refine (Tryz.slices_Sort_int_none none 0 w).mono ?_
    rintro e w' ⟨rfl, rfl⟩
    have h0 : zs = [] := by
      rcases h.2 with ⟨_, h⟩ | ⟨_, _, _, e, _⟩
      · exact List.length_eq_zero_iff.1 h
      · cases e
    subst h0
    exact ⟨rfl, by simpa [sortL] using h, Below.refl _ _⟩
  · obtain ⟨g, cap, rfl, hb, hlt, hn', hcap, hl, hH⟩ := Lib.holds_of_ownsRow h hv
    refine (Tryz.slices_Sort_int g 0 cap zs w hH hlt hn).mono ?_
    rintro e w' ⟨rfl, k, os, rfl⟩
    refine ⟨rfl, own_grow ?_ os, below_grow' (Lib.below_putRow (Below.refl _ _) hb) (by simp [putRow, mapBlock, Sort.ahead]; omega) os⟩
    have := Lib.ownsRow_putRow (q := k) (k := zs.length) h (ys := sortL zs) (by simp [sortL]) (Nat.le_refl _)
    rwa [List.take_of_length_le (by simp [sortL])] at this

/-- slices.Compact of a row that the call owns. -/
theorem compact_own (base : Nat) (v : Value) (zs : List Int) (w : World) (h : w.ownsRow base 3 1 v zs.length (zs.map (Value.int .i64))) (hn : zs.length < 4611686018427387904) :
    Calls Tryz.prog 137 #[v] w fun e w' => e = .returned (cutTo v (Lib.compact zs).length) ∧ w'.ownsRow base 3 1 (cutTo v (Lib.compact zs).length) (Lib.compact zs).length ((Lib.compact zs).map (Value.int .i64)) ∧ Below base w w' := by
  by_cases hv : v = .slice none 0 0
  · subst hv
    refine (Tryz.slices_Compact_int_empty none 0 w).mono ?_
    rintro e w' ⟨rfl, rfl⟩
    have h0 : zs = [] := by
      rcases h.2 with ⟨_, h⟩ | ⟨_, _, _, e, _⟩
      · exact List.length_eq_zero_iff.1 h
      · cases e
    subst h0
    exact ⟨rfl, h, Below.refl _ _⟩
  · obtain ⟨g, cap, rfl, hb, hlt, hn', hcap, hl, hH⟩ := Lib.holds_of_ownsRow h hv
    refine (Tryz.slices_Compact_int g 0 cap zs w hH (by omega) hn').mono ?_
    rintro e w' ⟨rfl, k, rfl⟩
    refine ⟨rfl, ?_, Lib.below_putRow (Below.refl _ _) hb⟩
    have hle := Lib.compact_length_le zs
    have := Lib.ownsRow_putRow (q := k) (k := (Lib.compact zs).length) h (ys := Lib.compact zs ++ List.replicate (zs.length - (Lib.compact zs).length) 0) (by simp; omega) hle
    rwa [List.take_left] at this

theorem isop_any (n : Int) (w : World) : Calls Tryz.prog 27 #[.int .i64 n] w fun e w' => e = .returned (.bool (decide (1 ≤ n) && decide (n ≤ 53))) ∧ w = w' := by
  go_enter Tryz.func27, Tryz.ntmps27
  go_wp2
  all_goals go_ret
  all_goals exact ⟨ret_bool (by simp; omega), rfl⟩

/-- Whether a code is well-formed. -/
def fineB (c : CodeD) (l : Bool) : Bool := chkErr c l == 0

theorem fine_any (h : CodeH) (c : CodeD) (w : World) (H : CodeAt w w.heap.size h c) : Calls Tryz.prog 56 #[.agg #[.slice h.i.a h.i.n h.i.c, .slice h.p.a h.p.n h.p.c, .slice h.t.a h.t.n h.t.c, .slice h.s.a h.s.n h.s.c, .slice h.g.a h.g.n h.g.c, .slice h.r.a h.r.n h.r.c, .slice h.o.a h.o.n h.o.c]] w
    fun e w' => e = .returned (.bool (fineB c (largeB h))) ∧ Below w.heap.size w w' := by
  have HC := Lib.hid H
  clear H
  have B0 := Lib.hid (BInv.start h w 30)
  go_enter Tryz.func56, Tryz.ntmps56
  go_wp2_with (go_at_call 14; refine (Check_any h c _ (HC.out.at B0.out.b)).mono ?_; rintro e w1 ⟨rfl, hb1⟩; have B1 := Lib.hid (B0.out.below hb1); clear hb1)
  go_ret
  exact ⟨rfl, B1.out.b⟩

theorem list_ne_at {xs ys : List Int} {k : Nat} {x y : Int} (hx : xs[k]? = some x) (hy : ys[k]? = some y) (h : (x != y) = true) : (xs == ys) = false := by
  rw [beq_eq_false_iff_ne]
  rintro rfl
  rw [hx] at hy
  cases hy
  simp at h

/-- manorboyref14.SameInts. -/
theorem sameInts_any (A1 A2 : Option Addr) (n c m d : Nat) (xs ys : List Int) (w : World) (h1 : Reads w w.heap.size 1 A1 n (intCells xs)) (h2 : Reads w w.heap.size 1 A2 m (intCells ys)) (hn : n ≤ 140737488351232) :
    Calls Tryz.prog 35 #[.slice A1 n c, .slice A2 m d] w fun e w' => e = .returned (.bool (xs == ys)) ∧ Below w.heap.size w w' := by
  have hl1 : n = xs.length := by have := h1.1; simp [intCells] at this; omega
  have hl2 : m = ys.length := by have := h2.1; simp [intCells] at this; omega
  have R1 := Lib.hid h1
  have R2 := Lib.hid h2
  have N1 := Lib.hid hl1
  have N2 := Lib.hid hl2
  clear h1 h2 hl1 hl2
  cases hnm : ((n : Int) != (m : Int)) with
  | true =>
    go_enter Tryz.func35, Tryz.ntmps35
    go_wp2
    go_ret
    exact ⟨ret_bool (by symm; rw [beq_eq_false_iff_ne]; rintro rfl; have := N1.out; have := N2.out; simp at hnm; omega), Below.refl _ _⟩
  | false =>
    have hnm' : n = m := by simp at hnm; omega
    have NM := Lib.hid hnm'
    clear hnm'
    go_enter Tryz.func35, Tryz.ntmps35
    go_wp2
    go_loopw [5] (fun i wr => ∃ k : Nat, k ≤ n ∧ i = .int .i64 k ∧ Below w.heap.size w wr ∧ ∀ (j : Nat), j < k → xs[j]? = ys[j]?) (fun i _ => n - (intOf i).toNat)
    case atStart => exact ⟨0, by omega, rfl, Below.refl _ _, fun j hj => by omega⟩
    case round =>
      obtain ⟨k, hk, rfl, hb, hall⟩ := hrel
      have HB := Lib.hid hb
      have HA := Lib.hid hall
      clear hb hall
      by_cases hlt : k < n
      · obtain ⟨a1, x, rfl, hx, hb1, hc1⟩ := Reads.elem1 (R1.out.below HB.out) N1.out hlt
        obtain ⟨a2, y, rfl, hy, hb2, hc2⟩ := Reads.elem1 (R2.out.below HB.out) N2.out (k := k) (by have := NM.out; omega)
        have hlt2 : k < m := by have := NM.out; omega
        have hi1 : (k : Int) < (n : Int) := by omega
        have hi2 : (k : Int) < (m : Int) := by omega
        have hi0 : (0 : Int) ≤ (k : Int) := by omega
        have HX := Lib.hid hx
        have HY := Lib.hid hy
        clear hx hy
        cases hne : (x != y) with
        | true =>
          have HH := Lib.hid (list_ne_at HX.out HY.out hne)
          go_wp2
          go_quiet (fail)
          go_wp2
          go_ret
          exact ⟨ret_bool HH.out.symm, below_drewN HB.out _⟩
        | false =>
          go_wp2
          go_quiet (fail)
          go_wp2
          go_roundw
          case rel => exact ⟨k + 1, by omega, by go_num, below_drewN HB.out _, fun j hj => by
            rcases Nat.lt_succ_iff_lt_or_eq.1 hj with h | rfl
            · exact HA.out j h
            · rw [HX.out, HY.out]; simpa using hne⟩
          case measure => simp [intOf]; omega
      · go_wp2
        go_ret
        refine ⟨ret_bool ?_, HB.out⟩
        symm
        rw [beq_iff_eq]
        apply List.ext_getElem?
        intro j
        by_cases hj : j < k
        · exact HA.out j hj
        · have := N1.out; have := N2.out; have := NM.out
          rw [List.getElem?_eq_none (by omega), List.getElem?_eq_none (by omega)]
end Go.Proofs.YtmfnholhhakgaaaGreatDoor
end
section
namespace Go.Proofs.YtmfnholhhakgaaaGreatDoor
open Go Go.Proofs Go.RowKit Go.Sort

/-- What the program's table says of a slice's type and its elements. -/
structure Elem (t e : TypeId) (size bytes : Nat) (z : Value) : Prop where
  u : Tryz.prog.underlying t = some (.slice e)
  i : ∃ i, Tryz.prog.info? e = some i ∧ i.zero = some z ∧ i.size = size ∧ i.bytes = bytes
  s : z.cells.size = size
  p : 0 < size
  b : bytes ≤ 64
theorem elemInts : Elem 28 3 1 8 (.int .i64 0) := ⟨Tryz.underlying28, info_parts (by kernel_rfl), rfl, by decide, by decide⟩
theorem elemStrs : Elem 26 9 1 16 (.string ByteArray.empty) := ⟨Tryz.underlying26, info_parts (by kernel_rfl), rfl, by decide, by decide⟩
theorem elemInstr : Elem 22 52 4 32 (.agg #[.int .i64 0, .int .i64 0, .int .i64 0, .int .i64 0]) := ⟨Tryz.underlying22, info_parts (by kernel_rfl), rfl, by decide, by decide⟩
theorem elemProc : Elem 23 78 5 40 (.agg #[.int .i64 0, .int .i64 0, .int .i64 0, .int .i64 0, .bool false]) := ⟨Tryz.underlying23, info_parts (by kernel_rfl), rfl, by decide, by decide⟩
theorem elemThunk : Elem 24 94 3 24 (.agg #[.int .i64 0, .int .i64 0, .int .i64 0]) := ⟨Tryz.underlying24, info_parts (by kernel_rfl), rfl, by decide, by decide⟩
theorem elemSw : Elem 25 28 1 24 (.slice none 0 0) := ⟨Tryz.underlying25, info_parts (by kernel_rfl), rfl, by decide, by decide⟩
theorem elemReal : Elem 27 99 2 16 (.agg #[.int .i64 0, .int .i64 0]) := ⟨Tryz.underlying27, info_parts (by kernel_rfl), rfl, by decide, by decide⟩

theorem own_mono {w : World} {base base' : Nat} {e : TypeId} {size : Nat} {v : Value} {n : Nat} {xs : List Value} (h : w.ownsRow base e size v n xs) (hb : base' ≤ base) : w.ownsRow base' e size v n xs := by
  refine ⟨h.1, ?_⟩
  rcases h.2 with h2 | ⟨g, cap, cur, rfl, hg, h3⟩
  · exact .inl h2
  · exact .inr ⟨g, cap, cur, rfl, by omega, h3⟩
theorem own_below {w w' : World} {base : Nat} {e : TypeId} {size : Nat} {v : Value} {n : Nat} {xs : List Value} (h : w.ownsRow base e size v n xs) (hb : Below w.heap.size w w') : w'.ownsRow base e size v n xs := by
  refine ⟨h.1, ?_⟩
  rcases h.2 with h2 | ⟨g, cap, cur, rfl, hg, h3, h4⟩
  · exact .inl h2
  · exact .inr ⟨g, cap, cur, rfl, hg, by rw [hb.block g (Array.getElem?_eq_some_iff.1 h3).1]; exact h3, h4⟩

/-- A run of elements appended to a row that the call owns. -/
theorem wpList_run {t e : TypeId} {size bytes : Nat} {z : Value} (E : Elem t e size bytes z) {w : World} {ops : Array Oper} {rest : List Oper} {o : Oper} {a : Act} {Q : Exit → Act → World → Prop} (hgd : o.guard = none) (s x : Operand)
    (ho : o.op = .call { callee := .builtin .append, args := #[s, x], argTypes := #[t, t] }) (base : Nat) (v : Value) (n : Nat) (xs : List Value) (hs : a.eval s = v) (hown : w.ownsRow base e size v n xs)
    (ad : Addr) (m c : Nat) (news : List Value) (hx : a.eval x = .slice (some ad) m c) (hl : news.length = m * size) (hnews : ∀ j u, news[j]? = some u → w.cell? (ad.add j) = some u) (h1 : ∀ u ∈ news, u.oneCell' = true)
    (h63 : n + m ≤ 1000000000000) (hbase : base ≤ w.heap.size)
    (h : ∀ v' w', w'.ownsRow base e size v' (n + m) (xs ++ news) → Below base w w' → wpList Tryz.prog ops Q rest (a.put o.dst v') w') : wpList Tryz.prog ops Q (o :: rest) a w := by
  obtain ⟨i, hi, hz, hsz, hby⟩ := E.i
  refine wpList_append_own w hgd s x t ho base e i z size bytes E.u hi hz hsz hby E.s E.p v n xs hs hown ad m c news hx hl hnews h1 (by unfold maxLen; omega) ?_ hbase ?_
  · have := E.b
    calc (n + m) * bytes ≤ 1000000000000 * 64 := Nat.mul_le_mul h63 this
      _ ≤ _ := by decide
  · intro v' w' h2 h3 _
    exact h v' w' h2 ((Below.refl base w).grown h3 hbase fun k hk => (hown.lt k hk).1)

/-- One element appended to a row that the call owns: it lies in a new block. -/
theorem wpList_push {t e : TypeId} {size bytes : Nat} {z : Value} (E : Elem t e size bytes z) {w : World} {ops : Array Oper} {rest : List Oper} {o : Oper} {a : Act} {Q : Exit → Act → World → Prop} (hgd : o.guard = none) (s x : Operand)
    (ho : o.op = .call { callee := .builtin .append, args := #[s, x], argTypes := #[t, t] }) (base : Nat) (v : Value) (n : Nat) (xs : List Value) (hs : a.eval s = v) (hown : w.ownsRow base e size v n xs)
    (cs : Array Value) (N : Nat) (hx : a.eval x = .slice (some ⟨N, 0, none⟩) 1 1) (hN : w.heap.size = N) (hcs : cs.size = size) (h1 : ∀ u ∈ cs.toList, u.oneCell' = true)
    (h63 : n + 1 ≤ 1000000000000) (hbase : base ≤ w.heap.size)
    (h : ∀ v' w', w'.ownsRow base e size v' (n + 1) (xs ++ cs.toList) → Below base w w' → wpList Tryz.prog ops Q rest (a.put o.dst v') w') : wpList Tryz.prog ops Q (o :: rest) a (w.alloc (.cells cs e)) := by
  subst hN
  refine wpList_run E hgd s x ho base v n xs hs (hown.alloc _) ⟨w.heap.size, 0, none⟩ 1 1 cs.toList hx (by simp [hcs]) (World.news_of_block (heap_alloc_new w _)) h1 h63 (by simp; omega) ?_
  intro v' w' h2 h3
  exact h v' w' h2 (((Below.refl base w).alloc hbase _).trans h3)

theorem own_lit {w : World} {base : Nat} {e : TypeId} {size : Nat} (cs : Array Value) (n N : Nat) (hN : w.heap.size = N) (hb : base ≤ N) (hm : n ≤ maxLen) (hs : cs.size = n * size) :
    (w.alloc (.cells cs e)).ownsRow base e size (.slice (some ⟨N, 0, none⟩) n n) n cs.toList := by
  subst hN
  exact World.ownsRow_lit w cs n hb hm hs

/-- An operation behind which control ends. -/
def stopB (op : Int) : Bool := op == 1 || op == 24 || op == 25 || op == 53
/-- What next gathers. -/
def nextRaw (op a : Int) (at_ n : Nat) : List Int := (if op == 48 then [a] else []) ++ (if at_ + 1 < n then [(at_ : Int) + 1] else [])
/-- What next returns. -/
def nextL (x : InstrD) (at_ n : Nat) : List Int := if stopB x.op then [] else if x.op == 47 then [x.a] else Lib.compact (sortL (nextRaw x.op x.a at_ n))
theorem nextL_raw {x : InstrD} {k n : Nat} {l : List Int} (h1 : stopB x.op = false) (h2 : (x.op == 47) = false) (h : nextRaw x.op x.a k n = l) : nextL x k n = Lib.compact (sortL l) := by
  unfold nextL
  rw [h1, h2, h]
  rfl

/-- The call returns a slice of ints that it owns. -/
def RetInts (w : World) (l : List Int) (e : Ending) (w' : World) : Prop := ∃ v, e = .returned v ∧ w'.ownsRow w.heap.size 3 1 v l.length (l.map (Value.int .i64)) ∧ Below w.heap.size w w'

set_option maxHeartbeats 2000000 in
theorem next_any (h : CodeH) (c : CodeD) (w : World) (H : CodeAt w w.heap.size h c) (k : Nat) (x : InstrD) (hx : c.instrs[k]? = some x) (hk : k < h.i.n) :
    Calls Tryz.prog 80 #[.agg #[.slice h.i.a h.i.n h.i.c, .slice h.p.a h.p.n h.p.c, .slice h.t.a h.t.n h.t.c, .slice h.s.a h.s.n h.s.c, .slice h.g.a h.g.n h.g.c, .slice h.r.a h.r.n h.r.c, .slice h.o.a h.o.n h.o.c], .int .i64 k] w
      (RetInts w (nextL x k h.i.n)) := by
  have hn : h.i.n ≤ 140737488351232 := H.ni.2
  have B0 := Lib.hid (BInv.start h w 30)
  obtain ⟨ad, x', had, hx', hab, hc⟩ := Reads.elem (f := InstrD.cells) (fun _ => rfl) (H.i.below B0.out.b) H.ni.1 hk
  rw [hx] at hx'
  cases hx'
  have c0 := hc 0 _ (by omega) rfl
  have c1 := hc 1 _ (by omega) rfl
  have c2 := hc 2 _ (by omega) rfl
  have c3 := hc 3 _ (by omega) rfl
  rw [show (ad.add (k * 4)).add 0 = ad.add (k * 4) from rfl] at c0
  rw [show (ad.add (k * 4)).add 1 = { block := (ad.add (k * 4)).block, off := (ad.add (k * 4)).off + 1 } from rfl] at c1
  rw [show (ad.add (k * 4)).add 2 = { block := (ad.add (k * 4)).block, off := (ad.add (k * 4)).off + 2 } from rfl] at c2
  rw [show (ad.add (k * 4)).add 3 = { block := (ad.add (k * 4)).block, off := (ad.add (k * 4)).off + 3 } from rfl] at c3
  rw [had] at B0 c0 c1 c2 c3 ⊢
  have x0 := B0.out.c0
  have hi1 : (k : Int) < (h.i.n : Int) := by omega
  have hi0 : (0 : Int) ≤ (k : Int) := by omega
  clear hc hx had hab H
  clear x0
  cases e1 : (x.op == 1) with
  | true =>
    have hs : stopB x.op = true := by unfold stopB; rw [e1]; simp
    have HS := Lib.hid hs
    clear hs
    go_enter Tryz.func80, Tryz.ntmps80
    go_wp2
    go_ret
    refine ⟨_, rfl, ?_, (B0.out.b.alloc (by simp) _)⟩
    rw [show nextL x k h.i.n = [] from by unfold nextL; rw [HS.out]; rfl]
    exact World.ownsRow_nil _ _ _ _
  | false =>
  cases e24 : (x.op == 24) with
  | true =>
    have hs : stopB x.op = true := by unfold stopB; rw [e24]; simp
    have HS := Lib.hid hs
    clear hs
    go_enter Tryz.func80, Tryz.ntmps80
    go_wp2
    go_ret
    refine ⟨_, rfl, ?_, (B0.out.b.alloc (by simp) _)⟩
    rw [show nextL x k h.i.n = [] from by unfold nextL; rw [HS.out]; rfl]
    exact World.ownsRow_nil _ _ _ _
  | false =>
  cases e25 : (x.op == 25) with
  | true =>
    have hs : stopB x.op = true := by unfold stopB; rw [e25]; simp
    have HS := Lib.hid hs
    clear hs
    go_enter Tryz.func80, Tryz.ntmps80
    go_wp2
    go_ret
    refine ⟨_, rfl, ?_, (B0.out.b.alloc (by simp) _)⟩
    rw [show nextL x k h.i.n = [] from by unfold nextL; rw [HS.out]; rfl]
    exact World.ownsRow_nil _ _ _ _
  | false =>
  cases e53 : (x.op == 53) with
  | true =>
    have hs : stopB x.op = true := by unfold stopB; rw [e53]; simp
    have HS := Lib.hid hs
    clear hs
    go_enter Tryz.func80, Tryz.ntmps80
    go_wp2
    go_ret
    refine ⟨_, rfl, ?_, (B0.out.b.alloc (by simp) _)⟩
    rw [show nextL x k h.i.n = [] from by unfold nextL; rw [HS.out]; rfl]
    exact World.ownsRow_nil _ _ _ _
  | false =>
  cases e47 : (x.op == 47) with
  | true =>
    have hs : nextL x k h.i.n = [x.a] := by unfold nextL stopB; rw [e1, e24, e25, e53, e47]; rfl
    have HS := Lib.hid hs
    clear hs
    go_enter Tryz.func80, Tryz.ntmps80
    go_wp2
    go_ret
    refine ⟨_, rfl, ?_, ((B0.out.b.alloc (by simp) _).alloc (by simp; omega) _)⟩
    rw [HS.out]
    exact own_lit #[.int .i64 x.a] 1 _ (by simp) (by omega) (by decide) rfl
  | false =>
  cases e48 : (x.op == 48) with
  | true =>
    by_cases hlt : k + 1 < h.i.n
    · have hs : nextL x k h.i.n = Lib.compact (sortL [x.a, (k : Int) + 1]) := nextL_raw (by unfold stopB; rw [e1, e24, e25, e53]; rfl) e47 (by unfold nextRaw; rw [e48, if_pos hlt]; rfl)
      have HS := Lib.hid hs
      clear hs
      have hlt' : (k : Int) + 1 < (h.i.n : Int) := by omega
      go_enter Tryz.func80, Tryz.ntmps80
      go_wp2_with (first
        | (at_builtin; refine wpList_push elemInts rfl _ _ rfl (w.heap.size + 1) _ 0 [] rfl (World.ownsRow_nil _ _ _ _) #[.int .i64 x.a] _ rfl (by simp) rfl (fun u hu => by rcases List.mem_singleton.1 hu with rfl; rfl) (by omega) (by first | (simp; done) | (simp; omega) | omega) ?_; intro v1 w1 ho1 hb1; have O1 : Hid (w1.ownsRow (w.heap.size + 1) 3 1 v1 [x.a].length ([x.a].map (Value.int .i64))) := Lib.hid ho1; have x0 := ((((Below.refl (w.heap.size + 1) _).alloc (by first | (simp; done) | (simp; omega) | omega) _).trans hb1).cell (p := ⟨w.heap.size, 0, none⟩) (by simp)).trans B0.out.c0; have BI1 := Lib.hid hb1; have BB1 := Lib.hid (((B0.out.b.mono (Nat.le_refl _)).alloc (by first | (simp; done) | (simp; omega) | omega) _).trans (hb1.mono (by omega))); clear ho1 hb1)
        | (at_builtin; refine wpList_push elemInts rfl _ _ rfl (w.heap.size + 1) _ 1 [.int .i64 x.a] rfl O1.out #[.int .i64 ((k : Int) + 1)] _ rfl (by first | rfl | simp) rfl (fun u hu => by rcases List.mem_singleton.1 hu with rfl; rfl) (by omega) (by have := BB1.out.size; have := BI1.out.size; simp at this; omega) ?_; intro v2 w2 ho2 hb2; have O2 : Hid (w2.ownsRow (w.heap.size + 1) 3 1 v2 [x.a, (k : Int) + 1].length ([x.a, (k : Int) + 1].map (Value.int .i64))) := Lib.hid ho2; clear x0; have BB2 := Lib.hid (BB1.out.trans (hb2.mono (by omega))); clear ho2 hb2)
        | (go_at_call 136; refine (sort_own (w.heap.size + 1) _ [x.a, (k : Int) + 1] _ O2.out (by simp)).mono ?_; rintro e w3 ⟨rfl, ho3, hb3⟩; have O3 := Lib.hid ho3; have BB3 := Lib.hid (BB2.out.trans (hb3.mono (by omega))); clear ho3 hb3)
        | (go_at_call 137; refine (compact_own (w.heap.size + 1) _ (sortL [x.a, (k : Int) + 1]) _ O3.out (by simp [sortL])).mono ?_; rintro e w4 ⟨rfl, ho4, hb4⟩; have O4 := Lib.hid ho4; have BB4 := Lib.hid (BB3.out.trans (hb4.mono (by omega))); clear ho4 hb4))
      go_ret
      refine ⟨_, rfl, ?_, BB4.out⟩
      rw [HS.out]
      exact own_mono O4.out (by omega)
    · have hs : nextL x k h.i.n = Lib.compact (sortL [x.a]) := nextL_raw (by unfold stopB; rw [e1, e24, e25, e53]; rfl) e47 (by unfold nextRaw; rw [e48, if_neg hlt]; rfl)
      have HS := Lib.hid hs
      clear hs
      have hlt' : ¬ (k : Int) + 1 < (h.i.n : Int) := by omega
      go_enter Tryz.func80, Tryz.ntmps80
      go_wp2_with (first
        | (at_builtin; refine wpList_push elemInts rfl _ _ rfl (w.heap.size + 1) _ 0 [] rfl (World.ownsRow_nil _ _ _ _) #[.int .i64 x.a] _ rfl (by simp) rfl (fun u hu => by rcases List.mem_singleton.1 hu with rfl; rfl) (by omega) (by first | (simp; done) | (simp; omega) | omega) ?_; intro v1 w1 ho1 hb1; have O1 : Hid (w1.ownsRow (w.heap.size + 1) 3 1 v1 [x.a].length ([x.a].map (Value.int .i64))) := Lib.hid ho1; have x0 := ((((Below.refl (w.heap.size + 1) _).alloc (by first | (simp; done) | (simp; omega) | omega) _).trans hb1).cell (p := ⟨w.heap.size, 0, none⟩) (by simp)).trans B0.out.c0; have BI1 := Lib.hid hb1; have BB1 := Lib.hid (((B0.out.b.mono (Nat.le_refl _)).alloc (by first | (simp; done) | (simp; omega) | omega) _).trans (hb1.mono (by omega))); clear ho1 hb1)
        | (go_at_call 136; refine (sort_own (w.heap.size + 1) _ [x.a] _ O1.out (by simp)).mono ?_; rintro e w3 ⟨rfl, ho3, hb3⟩; have O3 := Lib.hid ho3; have BB3 := Lib.hid (BB1.out.trans (hb3.mono (by omega))); clear ho3 hb3)
        | (go_at_call 137; refine (compact_own (w.heap.size + 1) _ (sortL [x.a]) _ O3.out (by simp [sortL])).mono ?_; rintro e w4 ⟨rfl, ho4, hb4⟩; have O4 := Lib.hid ho4; have BB4 := Lib.hid (BB3.out.trans (hb4.mono (by omega))); clear ho4 hb4))
      go_ret
      refine ⟨_, rfl, ?_, BB4.out⟩
      rw [HS.out]
      exact own_mono O4.out (by omega)
  | false =>
    by_cases hlt : k + 1 < h.i.n
    · have hs : nextL x k h.i.n = Lib.compact (sortL [(k : Int) + 1]) := nextL_raw (by unfold stopB; rw [e1, e24, e25, e53]; rfl) e47 (by unfold nextRaw; rw [e48, if_pos hlt]; rfl)
      have HS := Lib.hid hs
      clear hs
      have hlt' : (k : Int) + 1 < (h.i.n : Int) := by omega
      go_enter Tryz.func80, Tryz.ntmps80
      go_wp2_with (first
        | (at_builtin; refine wpList_push elemInts rfl _ _ rfl (w.heap.size + 1) _ 0 [] rfl (World.ownsRow_nil _ _ _ _) #[.int .i64 ((k : Int) + 1)] _ rfl (by first | rfl | simp) rfl (fun u hu => by rcases List.mem_singleton.1 hu with rfl; rfl) (by omega) (by first | (simp; done) | (simp; omega) | omega) ?_; intro v1 w1 ho1 hb1; have O1 : Hid (w1.ownsRow (w.heap.size + 1) 3 1 v1 [(k : Int) + 1].length ([(k : Int) + 1].map (Value.int .i64))) := Lib.hid ho1; have BI1 := Lib.hid hb1; have BB1 := Lib.hid (((B0.out.b.mono (Nat.le_refl _)).alloc (by first | (simp; done) | (simp; omega) | omega) _).trans (hb1.mono (by omega))); clear ho1 hb1)
        | (go_at_call 136; refine (sort_own (w.heap.size + 1) _ [(k : Int) + 1] _ O1.out (by simp)).mono ?_; rintro e w3 ⟨rfl, ho3, hb3⟩; have O3 := Lib.hid ho3; have BB3 := Lib.hid (BB1.out.trans (hb3.mono (by omega))); clear ho3 hb3)
        | (go_at_call 137; refine (compact_own (w.heap.size + 1) _ (sortL [(k : Int) + 1]) _ O3.out (by simp [sortL])).mono ?_; rintro e w4 ⟨rfl, ho4, hb4⟩; have O4 := Lib.hid ho4; have BB4 := Lib.hid (BB3.out.trans (hb4.mono (by omega))); clear ho4 hb4))
      go_ret
      refine ⟨_, rfl, ?_, BB4.out⟩
      rw [HS.out]
      exact own_mono O4.out (by omega)
    · have hs : nextL x k h.i.n = Lib.compact (sortL ([] : List Int)) := nextL_raw (by unfold stopB; rw [e1, e24, e25, e53]; rfl) e47 (by unfold nextRaw; rw [e48, if_neg hlt]; rfl)
      have HS := Lib.hid hs
      clear hs
      have hlt' : ¬ (k : Int) + 1 < (h.i.n : Int) := by omega
      go_enter Tryz.func80, Tryz.ntmps80
      go_wp2_with (first
        | (go_at_call 136; refine (sort_own (w.heap.size + 1) _ ([] : List Int) _ (World.ownsRow_nil _ _ _ _) (by simp)).mono ?_; rintro e w3 ⟨rfl, ho3, hb3⟩; have O3 := Lib.hid ho3; have BB3 := Lib.hid ((B0.out.b.alloc (by simp) _).trans (hb3.mono (by omega))); clear ho3 hb3)
        | (go_at_call 137; refine (compact_own (w.heap.size + 1) _ (sortL ([] : List Int)) _ O3.out (by simp [sortL])).mono ?_; rintro e w4 ⟨rfl, ho4, hb4⟩; have O4 := Lib.hid ho4; have BB4 := Lib.hid (BB3.out.trans (hb4.mono (by omega))); clear ho4 hb4))
      go_ret
      refine ⟨_, rfl, ?_, BB4.out⟩
      rw [HS.out]
      exact own_mono O4.out (by omega)

/-- The call returns a slice of ints that it owns, and an error. -/
def RetIntsE (w : World) (l : List Int) (err : Int) (e : Ending) (w' : World) : Prop := ∃ v, e = .returned (.tuple #[v, .int .i64 err]) ∧ w'.ownsRow w.heap.size 3 1 v l.length (l.map (Value.int .i64)) ∧ Below w.heap.size w w'

theorem Next_bad (h : CodeH) (c : CodeD) (w : World) (H : CodeAt w w.heap.size h c) (n : Int) (hbad : (fineB c (largeB h) && wiB n 0 ((h.i.n : Int) - 1)) = false) :
    Calls Tryz.prog 33 #[.agg #[.slice h.i.a h.i.n h.i.c, .slice h.p.a h.p.n h.p.c, .slice h.t.a h.t.n h.t.c, .slice h.s.a h.s.n h.s.c, .slice h.g.a h.g.n h.g.c, .slice h.r.a h.r.n h.r.c, .slice h.o.a h.o.n h.o.c], .int .i64 n] w
      (RetIntsE w [] 1) := by
  have HC := Lib.hid H
  clear H
  have hn : h.i.n ≤ 140737488351232 := HC.out.ni.2
  have B0 := Lib.hid (BInv.start h w 30)
  cases hf : fineB c (largeB h) with
  | false =>
    clear hbad
    go_enter Tryz.func33, Tryz.ntmps33
    go_wp2_with (first
      | (go_at_call 56; refine (fine_any h c _ (HC.out.at B0.out.b)).mono ?_; rintro e w1 ⟨rfl, hb1⟩; have B1 := Lib.hid (B0.out.below hb1); clear hb1))
    go_ret2
    exact ⟨_, rfl, World.ownsRow_nil _ _ _ _, B1.out.b⟩
  | true =>
    have hw : wiB n 0 ((h.i.n : Int) - 1) = false := by rw [hf] at hbad; exact hbad
    clear hbad
    go_enter Tryz.func33, Tryz.ntmps33
    go_wp2_with (first
      | (go_at_call 56; refine (fine_any h c _ (HC.out.at B0.out.b)).mono ?_; rintro e w1 ⟨rfl, hb1⟩; have B1 := Lib.hid (B0.out.below hb1); have x0 := B1.out.c0; clear hb1)
      | (go_at_call 79; refine (within_any _ _ _ _).mono ?_; rintro e w2 ⟨rfl, rfl⟩))
    go_ret2
    exact ⟨_, rfl, World.ownsRow_nil _ _ _ _, B1.out.b⟩

theorem Next_ok (h : CodeH) (c : CodeD) (w : World) (H : CodeAt w w.heap.size h c) (k : Nat) (x : InstrD) (hx : c.instrs[k]? = some x) (hk : k < h.i.n) (hf : fineB c (largeB h) = true) :
    Calls Tryz.prog 33 #[.agg #[.slice h.i.a h.i.n h.i.c, .slice h.p.a h.p.n h.p.c, .slice h.t.a h.t.n h.t.c, .slice h.s.a h.s.n h.s.c, .slice h.g.a h.g.n h.g.c, .slice h.r.a h.r.n h.r.c, .slice h.o.a h.o.n h.o.c], .int .i64 k] w
      (RetIntsE w (nextL x k h.i.n) 0) := by
  have HC := Lib.hid H
  clear H
  have hn : h.i.n ≤ 140737488351232 := HC.out.ni.2
  have B0 := Lib.hid (BInv.start h w 30)
  have HX := Lib.hid hx
  clear hx
  have hw : wiB (k : Int) 0 ((h.i.n : Int) - 1) = true := by unfold wiB; simp; omega
  go_enter Tryz.func33, Tryz.ntmps33
  go_wp2_with (first
    | (go_at_call 56; refine (fine_any h c _ (HC.out.at B0.out.b)).mono ?_; rintro e w1 ⟨rfl, hb1⟩; have B1 := Lib.hid (B0.out.below hb1); have x0 := B1.out.c0; have x1 := B1.out.c1; have x2 := B1.out.c2; have x3 := B1.out.c3; have x4 := B1.out.c4; have x5 := B1.out.c5; have x6 := B1.out.c6; clear hb1)
    | (go_at_call 79; refine (within_any _ _ _ _).mono ?_; rintro e w2 ⟨rfl, rfl⟩)
    | (go_at_call 80; refine (next_any h c _ (HC.out.at B1.out.b) k x HX.out hk).mono ?_; rintro e w3 ⟨v, rfl, ho3, hb3⟩; have O3 := Lib.hid ho3; have BB3 := Lib.hid hb3; clear ho3 hb3 x0 x1 x2 x3 x4 x5 x6))
  go_ret2
  exact ⟨_, rfl, own_mono O3.out B1.out.b.size, B1.out.b.trans (BB3.out.mono B1.out.b.size)⟩
end Go.Proofs.YtmfnholhhakgaaaGreatDoor
end
