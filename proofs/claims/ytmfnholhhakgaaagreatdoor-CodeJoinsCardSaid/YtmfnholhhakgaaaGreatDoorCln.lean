/- slices.Clone, Grow and Concat of the tables. -/
import Derived.Test.YtmfnholhhakgaaaGreatDoorMhi
import Derived.Lib.AppendZeros
namespace Go.Proofs.YtmfnholhhakgaaaGreatDoor
open Go Go.Proofs Go.RowKit Go.Sort

/-- The call returns a slice that it owns. -/
def RetRow (el size n : Nat) (xs : List Value) (w : World) (e : Ending) (w' : World) : Prop := ∃ v, e = .returned v ∧ w'.ownsRow w.heap.size el size v n xs ∧ Below w.heap.size w w'

/-- What is appended reads as it did. -/
theorem Reads.news {w w' : World} {B size n : Nat} {ad : Addr} {xs : List Value} (h : Reads w B size (some ad) n xs) (hb : Below B w w') : ∀ j u, xs[j]? = some u → w'.cell? (ad.add j) = some u := by
  intro j u hj
  have hl := h.1
  have hj' := (List.getElem?_eq_some_iff.1 hj).1
  rcases Nat.eq_zero_or_pos n with h0 | h0
  · subst h0; rw [Nat.zero_mul] at hl; omega
  · obtain ⟨ad', he, hab, hc⟩ := h.2 h0
    cases he
    exact (hb.cell (p := ad.add j) (by rw [block_of_add]; exact hab)).trans (hc j u hj)
theorem run_app_none {w : World} (base : Nat) {t e : TypeId} {size bytes : Nat} {z : Value} (E : Elem t e size bytes z) (ty : TypeId) (v : Value) (n c : Nat) (xs : List Value) (hown : w.ownsRow base e size v n xs) :
    (Builtin.append_ #[t, t] ty #[v, .slice none 0 c]).run Tryz.prog w = .ok v w := by
  obtain ⟨i, hi, _⟩ := E.i
  have ht := E.u
  rcases hown.2 with ⟨rfl, rfl⟩ | ⟨g, cap, cur, rfl, hbg, hg, hnc, hcm, hcs, htake⟩
  · simp [Builtin.append_, run_underlying ht, sizeOf, typeInfo, hi, Builtin.lenOf, Builtin.firstCells]
  · simp [Builtin.append_, run_underlying ht, sizeOf, typeInfo, hi, Builtin.lenOf, Builtin.firstCells, hnc, storeCells]
theorem wpList_app_none {t e : TypeId} {size bytes : Nat} {z : Value} (E : Elem t e size bytes z) {w : World} {ops : Array Oper} {rest : List Oper} {o : Oper} {a : Act} {Q : Exit → Act → World → Prop} (hgd : o.guard = none) (s x : Operand)
    (ho : o.op = .call { callee := .builtin .append, args := #[s, x], argTypes := #[t, t] })
    (base : Nat) (v : Value) (n c : Nat) (xs : List Value) (hs : a.eval s = v) (hown : w.ownsRow base e size v n xs) (hx : a.eval x = .slice none 0 c)
    (h : wpList Tryz.prog ops Q rest (a.put o.dst v) w) : wpList Tryz.prog ops Q (o :: rest) a w := by
  refine wpList_plain hgd fun K hK => ?_
  have hrun := run_app_none (w := w) base E o.type v n c xs hown
  unfold Oper.wp
  simp [execOp, ho, resolve, invoke, builtin, hs, hx, hrun, Result.andThen]
  exact hK _ _ h
/-- How much has come behind the first j of two lists. -/
def cn (n1 n2 j : Nat) : Nat := if j = 0 then 0 else if j = 1 then n1 else n1 + n2
def cx (xs ys : List Value) (j : Nat) : List Value := if j = 0 then [] else if j = 1 then xs else xs ++ ys
theorem cn1 (n1 n2 : Nat) : cn n1 n2 1 = n1 := rfl
theorem cn2 (n1 n2 : Nat) : cn n1 n2 2 = n1 + n2 := rfl
theorem cx1 (xs ys : List Value) : cx xs ys 1 = xs := rfl
theorem cx2 (xs ys : List Value) : cx xs ys 2 = xs ++ ys := rfl
theorem own_first {w : World} {base : Nat} {e : TypeId} {size n1 n2 : Nat} {v : Value} {xs ys : List Value} (h : w.ownsRow base e size v (cn n1 n2 0 + n1) (cx xs ys 0 ++ xs)) : w.ownsRow base e size v (cn n1 n2 1) (cx xs ys 1) := by
  have e0 : cn n1 n2 0 + n1 = n1 := Nat.zero_add _
  rw [e0] at h
  exact h
theorem Reads.nil {w : World} {B size n : Nat} {xs : List Value} (h : Reads w B size none n xs) : n = 0 ∧ xs = [] := by
  have hn0 : n = 0 := by
    rcases Nat.eq_zero_or_pos n with h0 | h0
    · exact h0
    · obtain ⟨ad, he, _⟩ := h.2 h0
      cases he
  subst hn0
  exact ⟨rfl, List.length_eq_zero_iff.1 (by have := h.1; omega)⟩
theorem one_instr (l : List InstrD) : ∀ u ∈ l.flatMap InstrD.cells, u.oneCell' = true := by
  intro u hu
  obtain ⟨x, _, hx⟩ := List.mem_flatMap.1 hu
  simp only [InstrD.cells, List.mem_cons, List.not_mem_nil, or_false] at hx
  rcases hx with rfl | rfl | rfl | rfl <;> rfl
theorem one_proc (l : List ProcD) : ∀ u ∈ l.flatMap ProcD.cells, u.oneCell' = true := by
  intro u hu
  obtain ⟨x, _, hx⟩ := List.mem_flatMap.1 hu
  simp only [ProcD.cells, List.mem_cons, List.not_mem_nil, or_false] at hx
  rcases hx with rfl | rfl | rfl | rfl | rfl <;> rfl
theorem one_thunk (l : List ThunkD) : ∀ u ∈ l.flatMap ThunkD.cells, u.oneCell' = true := by
  intro u hu
  obtain ⟨x, _, hx⟩ := List.mem_flatMap.1 hu
  simp only [ThunkD.cells, List.mem_cons, List.not_mem_nil, or_false] at hx
  rcases hx with rfl | rfl | rfl <;> rfl
theorem one_real (l : List RealD) : ∀ u ∈ l.flatMap RealD.cells, u.oneCell' = true := by
  intro u hu
  obtain ⟨x, _, hx⟩ := List.mem_flatMap.1 hu
  simp only [RealD.cells, List.mem_cons, List.not_mem_nil, or_false] at hx
  rcases hx with rfl | rfl <;> rfl
theorem one_ints (l : List Int) : ∀ u ∈ intCells l, u.oneCell' = true := by
  intro u hu
  obtain ⟨x, _, rfl⟩ := List.mem_map.1 hu
  rfl
theorem one_strs (l : List ByteArray) : ∀ u ∈ strCells l, u.oneCell' = true := by
  intro u hu
  obtain ⟨x, _, rfl⟩ := List.mem_map.1 hu
  rfl

theorem clone_instr (A : Option Addr) (n c B : Nat) (xs : List Value) (w : World) (h : Reads w B 4 A n xs) (h1 : ∀ u ∈ xs, u.oneCell' = true) (hn : n ≤ 900000000000) (hB : B ≤ w.heap.size) :
    Calls Tryz.prog 58 #[.slice A n c] w (RetRow 52 4 n xs w) := by
  have q : ∀ (w : World) (a : Option Addr) (n c n' c' : Nat), (binOp .eql 22 (.slice a n c) (.slice none n' c')).run Tryz.prog w = .ok (.bool a.isNone) w := fun w a n c n' c' => Lib.run_eql_slice_nil w _ _ a n c n' c' Tryz.underlying22
  have HR := Lib.hid (h.more hB)
  have H1 := Lib.hid h1
  clear h h1 hB
  cases A with
  | none =>
    have hn0 : n = 0 := by
      rcases Nat.eq_zero_or_pos n with h | h
      · exact h
      · obtain ⟨ad, he, _⟩ := HR.out.2 h
        cases he
    subst hn0
    have hx : xs = [] := List.length_eq_zero_iff.1 (by have := HR.out.1; omega)
    subst hx
    go_enter Tryz.func58, Tryz.ntmps58
    go_wp2
    go_ret
    exact ⟨_, rfl, World.ownsRow_nil _ _ _ _, Below.refl _ _⟩
  | some ad =>
    go_enter Tryz.func58, Tryz.ntmps58
    go_wp2_with (at_builtin; refine wpList_run elemInstr rfl _ _ rfl w.heap.size _ _ _ rfl (World.ownsRow_made w #[] 0 (Nat.le_refl _) (Nat.zero_le _) rfl) ad n c xs rfl HR.out.1 (HR.out.news ((Below.refl _ w).alloc (Nat.le_refl _) _)) H1.out (by omega) (by simp) ?_; intro v1 w1 ho1 hb1; have O1 := Lib.hid ho1; have B1 := Lib.hid (((Below.refl w.heap.size w).alloc (Nat.le_refl _) _).trans hb1); clear ho1 hb1)
    go_ret
    exact ⟨_, rfl, by simpa using O1.out, B1.out⟩

theorem clone_proc (A : Option Addr) (n c B : Nat) (xs : List Value) (w : World) (h : Reads w B 5 A n xs) (h1 : ∀ u ∈ xs, u.oneCell' = true) (hn : n ≤ 900000000000) (hB : B ≤ w.heap.size) :
    Calls Tryz.prog 59 #[.slice A n c] w (RetRow 78 5 n xs w) := by
  have q : ∀ (w : World) (a : Option Addr) (n c n' c' : Nat), (binOp .eql 23 (.slice a n c) (.slice none n' c')).run Tryz.prog w = .ok (.bool a.isNone) w := fun w a n c n' c' => Lib.run_eql_slice_nil w _ _ a n c n' c' Tryz.underlying23
  have HR := Lib.hid (h.more hB)
  have H1 := Lib.hid h1
  clear h h1 hB
  cases A with
  | none =>
    have hn0 : n = 0 := by
      rcases Nat.eq_zero_or_pos n with h | h
      · exact h
      · obtain ⟨ad, he, _⟩ := HR.out.2 h
        cases he
    subst hn0
    have hx : xs = [] := List.length_eq_zero_iff.1 (by have := HR.out.1; omega)
    subst hx
    go_enter Tryz.func59, Tryz.ntmps59
    go_wp2
    go_ret
    exact ⟨_, rfl, World.ownsRow_nil _ _ _ _, Below.refl _ _⟩
  | some ad =>
    go_enter Tryz.func59, Tryz.ntmps59
    go_wp2_with (at_builtin; refine wpList_run elemProc rfl _ _ rfl w.heap.size _ _ _ rfl (World.ownsRow_made w #[] 0 (Nat.le_refl _) (Nat.zero_le _) rfl) ad n c xs rfl HR.out.1 (HR.out.news ((Below.refl _ w).alloc (Nat.le_refl _) _)) H1.out (by omega) (by simp) ?_; intro v1 w1 ho1 hb1; have O1 := Lib.hid ho1; have B1 := Lib.hid (((Below.refl w.heap.size w).alloc (Nat.le_refl _) _).trans hb1); clear ho1 hb1)
    go_ret
    exact ⟨_, rfl, by simpa using O1.out, B1.out⟩

theorem clone_thunk (A : Option Addr) (n c B : Nat) (xs : List Value) (w : World) (h : Reads w B 3 A n xs) (h1 : ∀ u ∈ xs, u.oneCell' = true) (hn : n ≤ 900000000000) (hB : B ≤ w.heap.size) :
    Calls Tryz.prog 60 #[.slice A n c] w (RetRow 94 3 n xs w) := by
  have q : ∀ (w : World) (a : Option Addr) (n c n' c' : Nat), (binOp .eql 24 (.slice a n c) (.slice none n' c')).run Tryz.prog w = .ok (.bool a.isNone) w := fun w a n c n' c' => Lib.run_eql_slice_nil w _ _ a n c n' c' Tryz.underlying24
  have HR := Lib.hid (h.more hB)
  have H1 := Lib.hid h1
  clear h h1 hB
  cases A with
  | none =>
    have hn0 : n = 0 := by
      rcases Nat.eq_zero_or_pos n with h | h
      · exact h
      · obtain ⟨ad, he, _⟩ := HR.out.2 h
        cases he
    subst hn0
    have hx : xs = [] := List.length_eq_zero_iff.1 (by have := HR.out.1; omega)
    subst hx
    go_enter Tryz.func60, Tryz.ntmps60
    go_wp2
    go_ret
    exact ⟨_, rfl, World.ownsRow_nil _ _ _ _, Below.refl _ _⟩
  | some ad =>
    go_enter Tryz.func60, Tryz.ntmps60
    go_wp2_with (at_builtin; refine wpList_run elemThunk rfl _ _ rfl w.heap.size _ _ _ rfl (World.ownsRow_made w #[] 0 (Nat.le_refl _) (Nat.zero_le _) rfl) ad n c xs rfl HR.out.1 (HR.out.news ((Below.refl _ w).alloc (Nat.le_refl _) _)) H1.out (by omega) (by simp) ?_; intro v1 w1 ho1 hb1; have O1 := Lib.hid ho1; have B1 := Lib.hid (((Below.refl w.heap.size w).alloc (Nat.le_refl _) _).trans hb1); clear ho1 hb1)
    go_ret
    exact ⟨_, rfl, by simpa using O1.out, B1.out⟩

theorem clone_ints (A : Option Addr) (n c B : Nat) (xs : List Value) (w : World) (h : Reads w B 1 A n xs) (h1 : ∀ u ∈ xs, u.oneCell' = true) (hn : n ≤ 900000000000) (hB : B ≤ w.heap.size) :
    Calls Tryz.prog 64 #[.slice A n c] w (RetRow 3 1 n xs w) := by
  have q : ∀ (w : World) (a : Option Addr) (n c n' c' : Nat), (binOp .eql 28 (.slice a n c) (.slice none n' c')).run Tryz.prog w = .ok (.bool a.isNone) w := fun w a n c n' c' => Lib.run_eql_slice_nil w _ _ a n c n' c' Tryz.underlying28
  have HR := Lib.hid (h.more hB)
  have H1 := Lib.hid h1
  clear h h1 hB
  cases A with
  | none =>
    have hn0 : n = 0 := by
      rcases Nat.eq_zero_or_pos n with h | h
      · exact h
      · obtain ⟨ad, he, _⟩ := HR.out.2 h
        cases he
    subst hn0
    have hx : xs = [] := List.length_eq_zero_iff.1 (by have := HR.out.1; omega)
    subst hx
    go_enter Tryz.func64, Tryz.ntmps64
    go_wp2
    go_ret
    exact ⟨_, rfl, World.ownsRow_nil _ _ _ _, Below.refl _ _⟩
  | some ad =>
    go_enter Tryz.func64, Tryz.ntmps64
    go_wp2_with (at_builtin; refine wpList_run elemInts rfl _ _ rfl w.heap.size _ _ _ rfl (World.ownsRow_made w #[] 0 (Nat.le_refl _) (Nat.zero_le _) rfl) ad n c xs rfl HR.out.1 (HR.out.news ((Below.refl _ w).alloc (Nat.le_refl _) _)) H1.out (by omega) (by simp) ?_; intro v1 w1 ho1 hb1; have O1 := Lib.hid ho1; have B1 := Lib.hid (((Below.refl w.heap.size w).alloc (Nat.le_refl _) _).trans hb1); clear ho1 hb1)
    go_ret
    exact ⟨_, rfl, by simpa using O1.out, B1.out⟩

/-- slices.Grow of the nil slice. -/
theorem grow_strs (n : Nat) (w : World) (hn : n ≤ 900000000000) : Calls Tryz.prog 110 #[.slice none 0 0, .int .i64 n] w (RetRow 9 1 0 [] w) := by
  obtain ⟨i, hi, hz, hsz, hby⟩ := elemStrs.i
  have hb := elemStrs.b
  rcases Nat.eq_zero_or_pos n with rfl | h0
  · go_enter Tryz.func110, Tryz.ntmps110
    go_wp2
    go_ret
    exact ⟨_, rfl, World.ownsRow_nil _ _ _ _, Below.refl _ _⟩
  · have hr := fun ty => Lib.run_append_nil_zeros w 26 3 ty 9 i (.string ByteArray.empty) .i64 .i64 elemStrs.u Tryz.underlying3 hi hz n h0 (by omega) (by omega) (by
      rw [hby]
      calc n * _ ≤ 900000000000 * 64 := Nat.mul_le_mul hn hb
        _ ≤ _ := by decide)
    have HR := Lib.hid hr
    clear hr hi hz hsz hby
    have h0' : (0 : Int) < (n : Int) := by omega
    go_enter Tryz.func110, Tryz.ntmps110
    go_wp2_with (at_builtin; refine Lib.wpList_append_run _ rfl _ _ _ _ rfl _ _ rfl rfl _ _ (HR.out _) ?_)
    go_ret
    refine ⟨_, rfl, ?_, ((Below.refl w.heap.size w).drew).alloc (Nat.le_refl _) _⟩
    exact World.ownsRow_made w.drew _ _ (Nat.le_refl _) (grownCap_le_maxLen _ _ _ _ (by unfold maxLen; omega)) (by
      have hg := grownCap_ge w n 0 9
      rw [Array.size_append, size_zeroCells, size_zeroCells]
      generalize grownCap w n 0 9 = g at hg
      show n * 1 + (g - n) * 1 = g * 1
      omega)

/-- slices.Grow of the nil slice. -/
theorem grow_real (n : Nat) (w : World) (hn : n ≤ 900000000000) : Calls Tryz.prog 111 #[.slice none 0 0, .int .i64 n] w (RetRow 99 2 0 [] w) := by
  obtain ⟨i, hi, hz, hsz, hby⟩ := elemReal.i
  have hb := elemReal.b
  rcases Nat.eq_zero_or_pos n with rfl | h0
  · go_enter Tryz.func111, Tryz.ntmps111
    go_wp2
    go_ret
    exact ⟨_, rfl, World.ownsRow_nil _ _ _ _, Below.refl _ _⟩
  · have hr := fun ty => Lib.run_append_nil_zeros w 27 3 ty 99 i (.agg #[.int .i64 0, .int .i64 0]) .i64 .i64 elemReal.u Tryz.underlying3 hi hz n h0 (by omega) (by omega) (by
      rw [hby]
      calc n * _ ≤ 900000000000 * 64 := Nat.mul_le_mul hn hb
        _ ≤ _ := by decide)
    have HR := Lib.hid hr
    clear hr hi hz hsz hby
    have h0' : (0 : Int) < (n : Int) := by omega
    go_enter Tryz.func111, Tryz.ntmps111
    go_wp2_with (at_builtin; refine Lib.wpList_append_run _ rfl _ _ _ _ rfl _ _ rfl rfl _ _ (HR.out _) ?_)
    go_ret
    refine ⟨_, rfl, ?_, ((Below.refl w.heap.size w).drew).alloc (Nat.le_refl _) _⟩
    exact World.ownsRow_made w.drew _ _ (Nat.le_refl _) (grownCap_le_maxLen _ _ _ _ (by unfold maxLen; omega)) (by
      have hg := grownCap_ge w n 0 99
      rw [Array.size_append, size_zeroCells, size_zeroCells]
      generalize grownCap w n 0 99 = g at hg
      show n * 2 + (g - n) * 2 = g * 2
      omega)

/-- slices.Grow of the nil slice. -/
theorem grow_ints (n : Nat) (w : World) (hn : n ≤ 900000000000) : Calls Tryz.prog 112 #[.slice none 0 0, .int .i64 n] w (RetRow 3 1 0 [] w) := by
  obtain ⟨i, hi, hz, hsz, hby⟩ := elemInts.i
  have hb := elemInts.b
  rcases Nat.eq_zero_or_pos n with rfl | h0
  · go_enter Tryz.func112, Tryz.ntmps112
    go_wp2
    go_ret
    exact ⟨_, rfl, World.ownsRow_nil _ _ _ _, Below.refl _ _⟩
  · have hr := fun ty => Lib.run_append_nil_zeros w 28 3 ty 3 i (.int .i64 0) .i64 .i64 elemInts.u Tryz.underlying3 hi hz n h0 (by omega) (by omega) (by
      rw [hby]
      calc n * _ ≤ 900000000000 * 64 := Nat.mul_le_mul hn hb
        _ ≤ _ := by decide)
    have HR := Lib.hid hr
    clear hr hi hz hsz hby
    have h0' : (0 : Int) < (n : Int) := by omega
    go_enter Tryz.func112, Tryz.ntmps112
    go_wp2_with (at_builtin; refine Lib.wpList_append_run _ rfl _ _ _ _ rfl _ _ rfl rfl _ _ (HR.out _) ?_)
    go_ret
    refine ⟨_, rfl, ?_, ((Below.refl w.heap.size w).drew).alloc (Nat.le_refl _) _⟩
    exact World.ownsRow_made w.drew _ _ (Nat.le_refl _) (grownCap_le_maxLen _ _ _ _ (by unfold maxLen; omega)) (by
      have hg := grownCap_ge w n 0 3
      rw [Array.size_append, size_zeroCells, size_zeroCells]
      generalize grownCap w n 0 3 = g at hg
      show n * 1 + (g - n) * 1 = g * 1
      omega)

set_option maxHeartbeats 2000000 in
/-- slices.Concat of two slices: they lie in a block of the caller's. -/
theorem concat_strs (M : Nat) (A1 A2 : Option Addr) (n1 c1 n2 c2 k B : Nat) (xs ys : List Value) (w : World) (hM : M < w.heap.size) (m0 : w.cell? ⟨M, 0, none⟩ = some (.slice A1 n1 c1)) (m1 : w.cell? ⟨M, 1, none⟩ = some (.slice A2 n2 c2))
    (h1 : Reads w B 1 A1 n1 xs) (h2 : Reads w B 1 A2 n2 ys) (o1 : ∀ u ∈ xs, u.oneCell' = true) (o2 : ∀ u ∈ ys, u.oneCell' = true) (hn1 : n1 ≤ 100000000000) (hn2 : n2 ≤ 100000000000) (hB : B ≤ w.heap.size) :
    Calls Tryz.prog 61 #[.slice (some ⟨M, 0, none⟩) 2 k] w (RetRow 9 1 (n1 + n2) (xs ++ ys) w) := by
  have R1 := Lib.hid (h1.more hB)
  have R2 := Lib.hid (h2.more hB)
  have O1 := Lib.hid o1
  have O2 := Lib.hid o2
  clear h1 h2 o1 o2 hB
  have M0 := Lib.hid m0
  have M1 := Lib.hid m1
  clear m0 m1
  have hw : IntKind.i64.wrap ((n1 : Int) + (n2 : Int)) = ((n1 + n2 : Nat) : Int) := by rw [IntKind.wrap_i64]; omega
  have hge : ¬ (((n1 + n2 : Nat) : Int) < 0) := by omega
  go_enter Tryz.func61, Tryz.ntmps61
  go_wp2
  go_loop [3, 11] (fun v i => ∃ j : Nat, j ≤ 2 ∧ i = .int .i64 j ∧ v = .int .i64 (if j = 0 then 0 else if j = 1 then (n1 : Int) else ((n1 + n2 : Nat) : Int))) (fun _ i => 2 - (intOf i).toNat)
  case atStart => exact ⟨0, by omega, rfl, rfl⟩
  case round =>
    obtain ⟨j, hj, rfl, rfl⟩ := hrel
    match j, hj with
    | 0, _ =>
      have m0 := M0.out
      simp only [if_true]
      go_wp2
      go_round
      case rel => exact ⟨1, by omega, by go_num, rfl⟩
      case measure => simp [intOf]
    | 1, _ =>
      have m1 := M1.out
      simp only [Nat.one_ne_zero, if_false, if_true]
      go_wp2
      go_round
      case rel => exact ⟨2, by omega, by go_num, by go_num⟩
      case measure => simp [intOf]
    | 2, _ =>
      go_wp2_with (first
        | (go_at_call 110; refine (grow_strs (n1 + n2) _ (by omega)).mono ?_; rintro e w1 ⟨v1, rfl, ho, hb⟩; have OW := Lib.hid ho; have BW := Lib.hid hb; clear ho hb))
      go_loopw [6, 27] (fun v i wr => ∃ j : Nat, j ≤ 2 ∧ i = .int .i64 j ∧ wr.ownsRow w.heap.size 9 1 v (cn n1 n2 j) (cx xs ys j) ∧ Below w.heap.size w wr) (fun _ i _ => 2 - (intOf i).toNat)
      case atStart => exact ⟨0, by omega, rfl, OW.out, BW.out⟩
      case round =>
        obtain ⟨j, hj, rfl, ho, hb⟩ := hrel
        have HO := Lib.hid ho
        have HB := Lib.hid hb
        clear ho hb OW BW
        match j, hj with
        | 0, _ =>
          have m0 := (HB.out.cell (p := ⟨M, 0, none⟩) hM).trans M0.out
          cases A1 with
          | none =>
            have hz := R1.out.nil
            have HZ := Lib.hid (show wr.ownsRow w.heap.size 9 1 _ (cn n1 n2 1) (cx xs ys 1) from by rw [cn1, cx1, hz.1, hz.2]; exact HO.out)
            rw [hz.1] at m0
            clear hz
            go_wp2_with (at_builtin; refine wpList_app_none elemStrs rfl _ _ rfl w.heap.size _ _ _ _ rfl HO.out rfl ?_)
            go_roundw
            case rel => exact ⟨1, by omega, by go_num, HZ.out, HB.out⟩
            case measure => simp [intOf]
          | some ad =>
            go_wp2_with (at_builtin; refine wpList_run elemStrs rfl _ _ rfl w.heap.size _ _ _ rfl HO.out ad n1 c1 xs rfl R1.out.1 (R1.out.news HB.out) O1.out (by unfold cn; simp; omega) HB.out.size ?_; intro v1 w1 ho1 hb1; have HZ := Lib.hid (own_first ho1); have HB1 := Lib.hid (HB.out.trans hb1); clear ho1 hb1)
            go_roundw
            case rel => exact ⟨1, by omega, by go_num, HZ.out, HB1.out⟩
            case measure => simp [intOf]
        | 1, _ =>
          have m1 := (HB.out.cell (p := ⟨M, 1, none⟩) hM).trans M1.out
          cases A2 with
          | none =>
            have hz := R2.out.nil
            have HZ := Lib.hid (show wr.ownsRow w.heap.size 9 1 _ (cn n1 n2 2) (cx xs ys 2) from by rw [cn2, cx2, hz.1, hz.2, Nat.add_zero, List.append_nil]; exact HO.out)
            rw [hz.1] at m1
            clear hz
            go_wp2_with (at_builtin; refine wpList_app_none elemStrs rfl _ _ rfl w.heap.size _ _ _ _ rfl HO.out rfl ?_)
            go_roundw
            case rel => exact ⟨2, by omega, by go_num, HZ.out, HB.out⟩
            case measure => simp [intOf]
          | some ad =>
            go_wp2_with (at_builtin; refine wpList_run elemStrs rfl _ _ rfl w.heap.size _ _ _ rfl HO.out ad n2 c2 ys rfl R2.out.1 (R2.out.news HB.out) O2.out (by unfold cn; simp; omega) HB.out.size ?_; intro v1 w1 ho1 hb1; have HZ := Lib.hid ho1; have HB1 := Lib.hid (HB.out.trans hb1); clear ho1 hb1)
            go_roundw
            case rel => exact ⟨2, by omega, by go_num, HZ.out, HB1.out⟩
            case measure => simp [intOf]
        | 2, _ =>
          go_wp2
          go_ret
          exact ⟨_, rfl, HO.out, HB.out⟩

set_option maxHeartbeats 2000000 in
/-- slices.Concat of two slices: they lie in a block of the caller's. -/
theorem concat_real (M : Nat) (A1 A2 : Option Addr) (n1 c1 n2 c2 k B : Nat) (xs ys : List Value) (w : World) (hM : M < w.heap.size) (m0 : w.cell? ⟨M, 0, none⟩ = some (.slice A1 n1 c1)) (m1 : w.cell? ⟨M, 1, none⟩ = some (.slice A2 n2 c2))
    (h1 : Reads w B 2 A1 n1 xs) (h2 : Reads w B 2 A2 n2 ys) (o1 : ∀ u ∈ xs, u.oneCell' = true) (o2 : ∀ u ∈ ys, u.oneCell' = true) (hn1 : n1 ≤ 100000000000) (hn2 : n2 ≤ 100000000000) (hB : B ≤ w.heap.size) :
    Calls Tryz.prog 62 #[.slice (some ⟨M, 0, none⟩) 2 k] w (RetRow 99 2 (n1 + n2) (xs ++ ys) w) := by
  have R1 := Lib.hid (h1.more hB)
  have R2 := Lib.hid (h2.more hB)
  have O1 := Lib.hid o1
  have O2 := Lib.hid o2
  clear h1 h2 o1 o2 hB
  have M0 := Lib.hid m0
  have M1 := Lib.hid m1
  clear m0 m1
  have hw : IntKind.i64.wrap ((n1 : Int) + (n2 : Int)) = ((n1 + n2 : Nat) : Int) := by rw [IntKind.wrap_i64]; omega
  have hge : ¬ (((n1 + n2 : Nat) : Int) < 0) := by omega
  go_enter Tryz.func62, Tryz.ntmps62
  go_wp2
  go_loop [3, 11] (fun v i => ∃ j : Nat, j ≤ 2 ∧ i = .int .i64 j ∧ v = .int .i64 (if j = 0 then 0 else if j = 1 then (n1 : Int) else ((n1 + n2 : Nat) : Int))) (fun _ i => 2 - (intOf i).toNat)
  case atStart => exact ⟨0, by omega, rfl, rfl⟩
  case round =>
    obtain ⟨j, hj, rfl, rfl⟩ := hrel
    match j, hj with
    | 0, _ =>
      have m0 := M0.out
      simp only [if_true]
      go_wp2
      go_round
      case rel => exact ⟨1, by omega, by go_num, rfl⟩
      case measure => simp [intOf]
    | 1, _ =>
      have m1 := M1.out
      simp only [Nat.one_ne_zero, if_false, if_true]
      go_wp2
      go_round
      case rel => exact ⟨2, by omega, by go_num, by go_num⟩
      case measure => simp [intOf]
    | 2, _ =>
      go_wp2_with (first
        | (go_at_call 111; refine (grow_real (n1 + n2) _ (by omega)).mono ?_; rintro e w1 ⟨v1, rfl, ho, hb⟩; have OW := Lib.hid ho; have BW := Lib.hid hb; clear ho hb))
      go_loopw [6, 27] (fun v i wr => ∃ j : Nat, j ≤ 2 ∧ i = .int .i64 j ∧ wr.ownsRow w.heap.size 99 2 v (cn n1 n2 j) (cx xs ys j) ∧ Below w.heap.size w wr) (fun _ i _ => 2 - (intOf i).toNat)
      case atStart => exact ⟨0, by omega, rfl, OW.out, BW.out⟩
      case round =>
        obtain ⟨j, hj, rfl, ho, hb⟩ := hrel
        have HO := Lib.hid ho
        have HB := Lib.hid hb
        clear ho hb OW BW
        match j, hj with
        | 0, _ =>
          have m0 := (HB.out.cell (p := ⟨M, 0, none⟩) hM).trans M0.out
          cases A1 with
          | none =>
            have hz := R1.out.nil
            have HZ := Lib.hid (show wr.ownsRow w.heap.size 99 2 _ (cn n1 n2 1) (cx xs ys 1) from by rw [cn1, cx1, hz.1, hz.2]; exact HO.out)
            rw [hz.1] at m0
            clear hz
            go_wp2_with (at_builtin; refine wpList_app_none elemReal rfl _ _ rfl w.heap.size _ _ _ _ rfl HO.out rfl ?_)
            go_roundw
            case rel => exact ⟨1, by omega, by go_num, HZ.out, HB.out⟩
            case measure => simp [intOf]
          | some ad =>
            go_wp2_with (at_builtin; refine wpList_run elemReal rfl _ _ rfl w.heap.size _ _ _ rfl HO.out ad n1 c1 xs rfl R1.out.1 (R1.out.news HB.out) O1.out (by unfold cn; simp; omega) HB.out.size ?_; intro v1 w1 ho1 hb1; have HZ := Lib.hid (own_first ho1); have HB1 := Lib.hid (HB.out.trans hb1); clear ho1 hb1)
            go_roundw
            case rel => exact ⟨1, by omega, by go_num, HZ.out, HB1.out⟩
            case measure => simp [intOf]
        | 1, _ =>
          have m1 := (HB.out.cell (p := ⟨M, 1, none⟩) hM).trans M1.out
          cases A2 with
          | none =>
            have hz := R2.out.nil
            have HZ := Lib.hid (show wr.ownsRow w.heap.size 99 2 _ (cn n1 n2 2) (cx xs ys 2) from by rw [cn2, cx2, hz.1, hz.2, Nat.add_zero, List.append_nil]; exact HO.out)
            rw [hz.1] at m1
            clear hz
            go_wp2_with (at_builtin; refine wpList_app_none elemReal rfl _ _ rfl w.heap.size _ _ _ _ rfl HO.out rfl ?_)
            go_roundw
            case rel => exact ⟨2, by omega, by go_num, HZ.out, HB.out⟩
            case measure => simp [intOf]
          | some ad =>
            go_wp2_with (at_builtin; refine wpList_run elemReal rfl _ _ rfl w.heap.size _ _ _ rfl HO.out ad n2 c2 ys rfl R2.out.1 (R2.out.news HB.out) O2.out (by unfold cn; simp; omega) HB.out.size ?_; intro v1 w1 ho1 hb1; have HZ := Lib.hid ho1; have HB1 := Lib.hid (HB.out.trans hb1); clear ho1 hb1)
            go_roundw
            case rel => exact ⟨2, by omega, by go_num, HZ.out, HB1.out⟩
            case measure => simp [intOf]
        | 2, _ =>
          go_wp2
          go_ret
          exact ⟨_, rfl, HO.out, HB.out⟩

set_option maxHeartbeats 2000000 in
/-- slices.Concat of two slices: they lie in a block of the caller's. -/
theorem concat_ints (M : Nat) (A1 A2 : Option Addr) (n1 c1 n2 c2 k B : Nat) (xs ys : List Value) (w : World) (hM : M < w.heap.size) (m0 : w.cell? ⟨M, 0, none⟩ = some (.slice A1 n1 c1)) (m1 : w.cell? ⟨M, 1, none⟩ = some (.slice A2 n2 c2))
    (h1 : Reads w B 1 A1 n1 xs) (h2 : Reads w B 1 A2 n2 ys) (o1 : ∀ u ∈ xs, u.oneCell' = true) (o2 : ∀ u ∈ ys, u.oneCell' = true) (hn1 : n1 ≤ 100000000000) (hn2 : n2 ≤ 100000000000) (hB : B ≤ w.heap.size) :
    Calls Tryz.prog 63 #[.slice (some ⟨M, 0, none⟩) 2 k] w (RetRow 3 1 (n1 + n2) (xs ++ ys) w) := by
  have R1 := Lib.hid (h1.more hB)
  have R2 := Lib.hid (h2.more hB)
  have O1 := Lib.hid o1
  have O2 := Lib.hid o2
  clear h1 h2 o1 o2 hB
  have M0 := Lib.hid m0
  have M1 := Lib.hid m1
  clear m0 m1
  have hw : IntKind.i64.wrap ((n1 : Int) + (n2 : Int)) = ((n1 + n2 : Nat) : Int) := by rw [IntKind.wrap_i64]; omega
  have hge : ¬ (((n1 + n2 : Nat) : Int) < 0) := by omega
  go_enter Tryz.func63, Tryz.ntmps63
  go_wp2
  go_loop [3, 11] (fun v i => ∃ j : Nat, j ≤ 2 ∧ i = .int .i64 j ∧ v = .int .i64 (if j = 0 then 0 else if j = 1 then (n1 : Int) else ((n1 + n2 : Nat) : Int))) (fun _ i => 2 - (intOf i).toNat)
  case atStart => exact ⟨0, by omega, rfl, rfl⟩
  case round =>
    obtain ⟨j, hj, rfl, rfl⟩ := hrel
    match j, hj with
    | 0, _ =>
      have m0 := M0.out
      simp only [if_true]
      go_wp2
      go_round
      case rel => exact ⟨1, by omega, by go_num, rfl⟩
      case measure => simp [intOf]
    | 1, _ =>
      have m1 := M1.out
      simp only [Nat.one_ne_zero, if_false, if_true]
      go_wp2
      go_round
      case rel => exact ⟨2, by omega, by go_num, by go_num⟩
      case measure => simp [intOf]
    | 2, _ =>
      go_wp2_with (first
        | (go_at_call 112; refine (grow_ints (n1 + n2) _ (by omega)).mono ?_; rintro e w1 ⟨v1, rfl, ho, hb⟩; have OW := Lib.hid ho; have BW := Lib.hid hb; clear ho hb))
      go_loopw [6, 27] (fun v i wr => ∃ j : Nat, j ≤ 2 ∧ i = .int .i64 j ∧ wr.ownsRow w.heap.size 3 1 v (cn n1 n2 j) (cx xs ys j) ∧ Below w.heap.size w wr) (fun _ i _ => 2 - (intOf i).toNat)
      case atStart => exact ⟨0, by omega, rfl, OW.out, BW.out⟩
      case round =>
        obtain ⟨j, hj, rfl, ho, hb⟩ := hrel
        have HO := Lib.hid ho
        have HB := Lib.hid hb
        clear ho hb OW BW
        match j, hj with
        | 0, _ =>
          have m0 := (HB.out.cell (p := ⟨M, 0, none⟩) hM).trans M0.out
          cases A1 with
          | none =>
            have hz := R1.out.nil
            have HZ := Lib.hid (show wr.ownsRow w.heap.size 3 1 _ (cn n1 n2 1) (cx xs ys 1) from by rw [cn1, cx1, hz.1, hz.2]; exact HO.out)
            rw [hz.1] at m0
            clear hz
            go_wp2_with (at_builtin; refine wpList_app_none elemInts rfl _ _ rfl w.heap.size _ _ _ _ rfl HO.out rfl ?_)
            go_roundw
            case rel => exact ⟨1, by omega, by go_num, HZ.out, HB.out⟩
            case measure => simp [intOf]
          | some ad =>
            go_wp2_with (at_builtin; refine wpList_run elemInts rfl _ _ rfl w.heap.size _ _ _ rfl HO.out ad n1 c1 xs rfl R1.out.1 (R1.out.news HB.out) O1.out (by unfold cn; simp; omega) HB.out.size ?_; intro v1 w1 ho1 hb1; have HZ := Lib.hid (own_first ho1); have HB1 := Lib.hid (HB.out.trans hb1); clear ho1 hb1)
            go_roundw
            case rel => exact ⟨1, by omega, by go_num, HZ.out, HB1.out⟩
            case measure => simp [intOf]
        | 1, _ =>
          have m1 := (HB.out.cell (p := ⟨M, 1, none⟩) hM).trans M1.out
          cases A2 with
          | none =>
            have hz := R2.out.nil
            have HZ := Lib.hid (show wr.ownsRow w.heap.size 3 1 _ (cn n1 n2 2) (cx xs ys 2) from by rw [cn2, cx2, hz.1, hz.2, Nat.add_zero, List.append_nil]; exact HO.out)
            rw [hz.1] at m1
            clear hz
            go_wp2_with (at_builtin; refine wpList_app_none elemInts rfl _ _ rfl w.heap.size _ _ _ _ rfl HO.out rfl ?_)
            go_roundw
            case rel => exact ⟨2, by omega, by go_num, HZ.out, HB.out⟩
            case measure => simp [intOf]
          | some ad =>
            go_wp2_with (at_builtin; refine wpList_run elemInts rfl _ _ rfl w.heap.size _ _ _ rfl HO.out ad n2 c2 ys rfl R2.out.1 (R2.out.news HB.out) O2.out (by unfold cn; simp; omega) HB.out.size ?_; intro v1 w1 ho1 hb1; have HZ := Lib.hid ho1; have HB1 := Lib.hid (HB.out.trans hb1); clear ho1 hb1)
            go_roundw
            case rel => exact ⟨2, by omega, by go_num, HZ.out, HB1.out⟩
            case measure => simp [intOf]
        | 2, _ =>
          go_wp2
          go_ret
          exact ⟨_, rfl, HO.out, HB.out⟩
end Go.Proofs.YtmfnholhhakgaaaGreatDoor
