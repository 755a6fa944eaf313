/- A code as data; small functions; IndexFunc; real.Valid. -/
import Derived.Test.YtmfnholhhakgaaaGreatDoorMhb
import Derived.Below
import Derived.Laws.OwnMore
import Derived.Deep.AppendLies
import Derived.Deep.Draws
import Derived.WalkLawsBesides
import Derived.WalkSpells
import Derived.Laws.EntriesVeiled
import Derived.BigQuiet
import Derived.Deep.QuietTactic
import Derived.Laws.StructEq
section
namespace Go.Proofs.YtmfnholhhakgaaaGreatDoor
open Go Go.Proofs Go.RowKit

theorem block_of_add (a : Addr) (n : Nat) : (a.add n).block = a.block := by unfold Addr.add; split <;> rfl
theorem add_of_add (a : Addr) (i j : Nat) : (a.add i).add j = a.add (i + j) := by
  unfold Addr.add
  by_cases hi : i = 0 <;> by_cases hj : j = 0 <;> simp [hi, hj, Nat.add_assoc]

/-- The slice value '.slice A n c' holds the cells xs, 'size' of them an element, and lies below block B. -/
def Reads (w : World) (B size : Nat) (A : Option Addr) (n : Nat) (xs : List Value) : Prop :=
  xs.length = n * size ∧ (0 < n → ∃ ad, A = some ad ∧ ad.block < B ∧ ∀ j u, xs[j]? = some u → w.cell? (ad.add j) = some u)

section
variable {w w' : World} {B B' size n : Nat} {A : Option Addr} {xs : List Value}
theorem Reads.keep (h : Reads w B size A n xs) (hk : ∀ p : Addr, p.block < B → w'.cell? p = w.cell? p) : Reads w' B size A n xs :=
  ⟨h.1, fun hn => by
    obtain ⟨ad, e, hb, hc⟩ := h.2 hn
    exact ⟨ad, e, hb, fun j u hu => (hk _ (by rw [block_of_add]; exact hb)).trans (hc j u hu)⟩⟩
theorem Reads.more (h : Reads w B size A n xs) (hB : B ≤ B') : Reads w B' size A n xs :=
  ⟨h.1, fun hn => by
    obtain ⟨ad, e, hb, hc⟩ := h.2 hn
    exact ⟨ad, e, by omega, hc⟩⟩
theorem Reads.below (h : Reads w B size A n xs) (hb : Below B w w') : Reads w' B size A n xs := h.keep fun _ hp => hb.cell hp
theorem Reads.of_own {base : Nat} {e : TypeId} {c : Nat} (h : w.ownsRow base e size (.slice A n c) n xs) : Reads w w.heap.size size A n xs := by
  refine ⟨h.1, fun hn => ?_⟩
  obtain ⟨g, cap, hv, _, hlt⟩ := h.form hn
  have hA : A = some ⟨g, 0, none⟩ := by injection hv
  subst hA
  exact ⟨_, rfl, hlt, h.cells (g := g) rfl⟩
end

/-- A slice's header: where it begins, its length, its capacity. -/
structure SH where
  a : Option Addr
  n : Nat
  c : Nat
def SH.v (s : SH) : Value := .slice s.a s.n s.c

structure InstrD where
  (op a b c : Int)
structure ProcD where
  (entry params type slots : Int)
  std : Bool
structure ThunkD where
  (value address desig : Int)
structure RealD where
  (man exp : Int)
/-- A code. -/
structure CodeD where
  instrs : List InstrD
  procs : List ProcD
  thunks : List ThunkD
  switches : List (List Int)
  strings : List ByteArray
  reals : List RealD
  owns : List Int

def InstrD.cells (x : InstrD) : List Value := [.int .i64 x.op, .int .i64 x.a, .int .i64 x.b, .int .i64 x.c]
def ProcD.cells (x : ProcD) : List Value := [.int .i64 x.entry, .int .i64 x.params, .int .i64 x.type, .int .i64 x.slots, .bool x.std]
def ThunkD.cells (x : ThunkD) : List Value := [.int .i64 x.value, .int .i64 x.address, .int .i64 x.desig]
def RealD.cells (x : RealD) : List Value := [.int .i64 x.man, .int .i64 x.exp]
def intCells (l : List Int) : List Value := l.map (.int .i64)
def strCells (l : List ByteArray) : List Value := l.map .string

theorem flat_at {α : Type} (f : α → List Value) (s : Nat) (hf : ∀ x, (f x).length = s) : ∀ (l : List α) (k j : Nat), j < s → (l.flatMap f)[k * s + j]? = (l[k]?).bind fun x => (f x)[j]?
  | [], k, j, _ => by simp
  | x :: l, 0, j, hj => by simp [List.getElem?_append, hf x, hj]
  | x :: l, k + 1, j, hj => by
    rw [List.flatMap_cons, List.getElem?_append_right (by rw [hf x, Nat.succ_mul]; omega), hf x]
    have : (k + 1) * s + j - s = k * s + j := by rw [Nat.succ_mul]; omega
    rw [this, flat_at f s hf l k j hj]
    simp

/-- The headers of the slices of a code. -/
structure CodeH where
  (i p t s g r o : SH)
/-- A code's value. -/
def CodeH.v (h : CodeH) : Value := .agg #[.slice h.i.a h.i.n h.i.c, .slice h.p.a h.p.n h.p.c, .slice h.t.a h.t.n h.t.c, .slice h.s.a h.s.n h.s.c, .slice h.g.a h.g.n h.g.c, .slice h.r.a h.r.n h.r.c, .slice h.o.a h.o.n h.o.c]

/-- A number that an int holds. -/
def I64 (n : Int) : Prop := -9223372036854775808 ≤ n ∧ n ≤ 9223372036854775807
/-- How large a number of elements can be. -/
def Small (n : Nat) : Prop := n ≤ 140737488351232
/-- The code c lies at h, below block B. -/
structure CodeAt (w : World) (B : Nat) (h : CodeH) (c : CodeD) : Prop where
  i : Reads w B 4 h.i.a h.i.n (c.instrs.flatMap InstrD.cells)
  p : Reads w B 5 h.p.a h.p.n (c.procs.flatMap ProcD.cells)
  t : Reads w B 3 h.t.a h.t.n (c.thunks.flatMap ThunkD.cells)
  s : ∃ hs : List SH, Reads w B 1 h.s.a h.s.n (hs.map SH.v) ∧ hs.length = c.switches.length ∧ ∀ (k : Nat) (x : SH) (l : List Int), hs[k]? = some x → c.switches[k]? = some l → Reads w B 1 x.a x.n (intCells l) ∧ Small x.n
  g : Reads w B 1 h.g.a h.g.n (strCells c.strings)
  r : Reads w B 2 h.r.a h.r.n (c.reals.flatMap RealD.cells)
  o : Reads w B 1 h.o.a h.o.n (intCells c.owns)
  ni : h.i.n = c.instrs.length ∧ Small h.i.n
  np : h.p.n = c.procs.length ∧ Small h.p.n
  nt : h.t.n = c.thunks.length ∧ Small h.t.n
  ns : h.s.n = c.switches.length ∧ Small h.s.n
  ng : h.g.n = c.strings.length ∧ Small h.g.n
  nr : h.r.n = c.reals.length ∧ Small h.r.n
  no : h.o.n = c.owns.length ∧ Small h.o.n
  zs : ∀ s ∈ c.strings, Small s.size
  wr : ∀ x ∈ c.reals, I64 x.man ∧ I64 x.exp

theorem CodeAt.keep {w w' : World} {B : Nat} {h : CodeH} {c : CodeD} (H : CodeAt w B h c) (hk : ∀ p : Addr, p.block < B → w'.cell? p = w.cell? p) : CodeAt w' B h c :=
  { i := H.i.keep hk, p := H.p.keep hk, t := H.t.keep hk, g := H.g.keep hk, r := H.r.keep hk, o := H.o.keep hk
    s := by
      obtain ⟨hs, h1, h2, h3⟩ := H.s
      exact ⟨hs, h1.keep hk, h2, fun k x l hx hl => ⟨(h3 k x l hx hl).1.keep hk, (h3 k x l hx hl).2⟩⟩
    ni := H.ni, np := H.np, nt := H.nt, ns := H.ns, ng := H.ng, nr := H.nr, no := H.no, zs := H.zs, wr := H.wr }
theorem CodeAt.below {w w' : World} {B : Nat} {h : CodeH} {c : CodeD} (H : CodeAt w B h c) (hb : Below B w w') : CodeAt w' B h c := H.keep fun _ hp => hb.cell hp
end Go.Proofs.YtmfnholhhakgaaaGreatDoor
end
section
namespace Go.Proofs.YtmfnholhhakgaaaGreatDoor
open Go Go.Proofs Go.RowKit
set_option maxRecDepth 100000

theorem ret_bool {a b : Bool} (h : a = b) : Ending.returned (.bool a) = .returned (.bool b) := by rw [h]
/-- lo <= n && n <= hi -/
def wiB (n lo hi : Int) : Bool := decide (lo ≤ n) && decide (n ≤ hi)
theorem within_any (n lo hi : Int) (w : World) : Calls Tryz.prog 79 #[.int .i64 n, .int .i64 lo, .int .i64 hi] w fun e w' => e = .returned (.bool (wiB n lo hi)) ∧ w = w' := by
  go_enter Tryz.func79, Tryz.ntmps79
  go_wp2
  all_goals go_ret
  all_goals exact ⟨ret_bool (by unfold wiB; simp; omega), rfl⟩
def tyB (n : Int) : Bool := decide (n = 1) || decide (n = 2) || decide (n = 3)
theorem isType_any (n : Int) (w : World) : Calls Tryz.prog 83 #[.int .i64 n] w fun e w' => e = .returned (.bool (tyB n)) ∧ w = w' := by
  go_enter Tryz.func83, Tryz.ntmps83
  go_wp2
  all_goals go_ret
  all_goals exact ⟨ret_bool (by unfold tyB; rw [Bool.eq_iff_iff]; simp; try omega), rfl⟩

def mx2 (a b : Int) : Int := if b > a then b else a
def max6 (a b c d e f : Int) : Int := mx2 (mx2 (mx2 (mx2 (mx2 a b) c) d) e) f
theorem run_max6 (P : Program) (ts : Array TypeId) (t : TypeId) (a b c d e f : Int) (w : World) : (Builtin.max_ ts t #[.int .i64 a, .int .i64 b, .int .i64 c, .int .i64 d, .int .i64 e, .int .i64 f]).run P w = .ok (.int .i64 (max6 a b c d e f)) w := rfl
theorem max6_gt (a b c d e f k : Int) : k < max6 a b c d e f ↔ k < a ∨ k < b ∨ k < c ∨ k < d ∨ k < e ∨ k < f := by
  unfold max6 mx2
  repeat' split <;> omega
def largeB (h : CodeH) : Bool := decide (h.i.n = 0 ∨ 20000 < h.i.n ∨ 2000 < h.p.n ∨ 2000 < h.t.n ∨ 2000 < h.s.n ∨ 2000 < h.g.n ∨ 2000 < h.r.n ∨ 2000 < h.o.n)
set_option maxHeartbeats 1000000 in
theorem large_any (h : CodeH) (w : World) : Calls Tryz.prog 42 #[.agg #[.slice h.i.a h.i.n h.i.c, .slice h.p.a h.p.n h.p.c, .slice h.t.a h.t.n h.t.c, .slice h.s.a h.s.n h.s.c, .slice h.g.a h.g.n h.g.c, .slice h.r.a h.r.n h.r.c, .slice h.o.a h.o.n h.o.c]] w
    fun e w' => e = .returned (.bool (largeB h)) ∧ Below w.heap.size w w' := by
  have hb : ∀ o, Below w.heap.size w (w.alloc o) := fun o => (Below.refl w.heap.size w).alloc (Nat.le_refl _) o
  have hmx := run_max6 Tryz.prog
  have hg := max6_gt h.p.n h.t.n h.s.n h.g.n h.r.n h.o.n 2000
  have HG := Lib.hid hg
  clear hg
  go_enter Tryz.func42, Tryz.ntmps42
  go_wp2
  · go_ret
    exact ⟨ret_bool (by unfold largeB; simp_all), hb _⟩
  · go_ret
    refine ⟨ret_bool ?_, hb _⟩
    have := HG.out
    unfold largeB
    rw [Bool.eq_iff_iff]
    simp only [Bool.or_eq_true, decide_eq_true_eq, beq_iff_eq]
    rw [this]
    omega
  · go_ret
    refine ⟨ret_bool ?_, hb _⟩
    have := HG.out
    unfold largeB
    first
      | (symm; rw [decide_eq_true_eq]; omega)
      | (rw [Bool.eq_iff_iff]; simp only [Bool.or_eq_true, decide_eq_true_eq, beq_iff_eq]; rw [this]; omega)

/-- The closure place of tables, and of Join: whether a number is a place. -/
theorem place_any (n : Int) (b : Nat) (a : Option Addr) (I c : Nat) (hI : I ≤ 140737488351232) (w : World) (hc : w.cell? ⟨b, 0, none⟩ = some (.slice a I c)) :
    Calls Tryz.prog 82 #[.int .i64 n, .pointer (some ⟨b, 0, none⟩)] w fun e w' => e = .returned (.bool (wiB n 0 ((I : Int) - 1))) ∧ w = w' := by
  go_enter Tryz.func82, Tryz.ntmps82
  go_wp2_with (go_at_call 79; refine (within_any _ _ _ _).mono ?_; rintro e w' ⟨rfl, rfl⟩)
  go_ret
  exact ⟨rfl, rfl⟩
theorem notPlace_any (n : Int) (b pb : Nat) (a : Option Addr) (I c : Nat) (hI : I ≤ 140737488351232) (w : World) (hc : w.cell? ⟨b, 0, none⟩ = some (.slice a I c))
    (hp : w.cell? ⟨pb, 0, none⟩ = some (.func (.func 82) #[] #[.pointer (some ⟨b, 0, none⟩)])) :
    Calls Tryz.prog 85 #[.int .i64 n, .pointer (some ⟨pb, 0, none⟩)] w fun e w' => e = .returned (.bool (!wiB n 0 ((I : Int) - 1))) ∧ w = w' := by
  go_enter Tryz.func85, Tryz.ntmps85
  go_wp2_with (go_at_call 82; refine (place_any _ b a I c hI _ hc).mono ?_; rintro e w' ⟨rfl, rfl⟩)
  go_ret
  exact ⟨rfl, rfl⟩
def badByte (b : Int) : Bool := decide (b < 32) || decide (126 < b) || decide (b = 34)
theorem odd_any (n : Int) (w : World) : Calls Tryz.prog 86 #[.int .u8 n] w fun e w' => e = .returned (.bool (badByte n)) ∧ w = w' := by
  go_enter Tryz.func86, Tryz.ntmps86
  go_wp2
  all_goals go_ret
  all_goals exact ⟨ret_bool (by unfold badByte; rw [Bool.eq_iff_iff]; simp; try omega), rfl⟩
end Go.Proofs.YtmfnholhhakgaaaGreatDoor
end
section
namespace Go.Proofs.YtmfnholhhakgaaaGreatDoor
open Go Go.Proofs Go.RowKit
set_option maxRecDepth 100000

section
variable {w w' : World} {B s n : Nat} {A : Option Addr}
theorem Reads.elem {α : Type} {f : α → List Value} {l : List α} (hf : ∀ x, (f x).length = s) (h : Reads w B s A n (l.flatMap f)) (hn : n = l.length) {k : Nat} (hk : k < n) :
    ∃ ad x, A = some ad ∧ l[k]? = some x ∧ ad.block < B ∧ ∀ j v, j < s → (f x)[j]? = some v → w.cell? ((ad.add (k * s)).add j) = some v := by
  obtain ⟨ad, hA, hb, hc⟩ := h.2 (by omega)
  have hx : l[k]? = some (l[k]'(by omega)) := List.getElem?_eq_getElem _
  refine ⟨ad, _, hA, hx, hb, fun j v hj hv => ?_⟩
  rw [add_of_add]
  refine hc _ v ?_
  rw [flat_at f s hf l k j hj, hx]
  exact hv
theorem Reads.elem1 {α : Type} {f : α → Value} {l : List α} (h : Reads w B 1 A n (l.map f)) (hn : n = l.length) {k : Nat} (hk : k < n) :
    ∃ ad x, A = some ad ∧ l[k]? = some x ∧ ad.block < B ∧ w.cell? (ad.add k) = some (f x) := by
  obtain ⟨ad, hA, hb, hc⟩ := h.2 (by omega)
  have hx : l[k]? = some (l[k]'(by omega)) := List.getElem?_eq_getElem _
  refine ⟨ad, _, hA, hx, hb, hc _ _ ?_⟩
  rw [List.getElem?_map, hx]
  rfl
end

/-- The index of the first element of which p is true; -1 if there is none. -/
def idxOf {α : Type} (p : α → Bool) (l : List α) : Int := match l.findIdx? p with | some i => (i : Int) | none => -1
theorem idxOf_hit {α : Type} {p : α → Bool} {l : List α} {k : Nat} {x : α} (hx : l[k]? = some x) (h : p x = true) (hb : ∀ j y, j < k → l[j]? = some y → p y = false) : idxOf p l = k := by
  unfold idxOf
  have hk := (List.getElem?_eq_some_iff.1 hx).1
  have : l.findIdx? p = some k := by
    rw [List.findIdx?_eq_some_iff_getElem]
    refine ⟨hk, by rw [(List.getElem?_eq_some_iff.1 hx).2]; exact h, fun j hj => ?_⟩
    rw [hb j _ hj (List.getElem?_eq_getElem (by omega))]
    simp
  rw [this]
theorem idxOf_miss {α : Type} {p : α → Bool} {l : List α} (hb : ∀ (j : Nat) (y : α), l[j]? = some y → p y = false) : idxOf p l = -1 := by
  unfold idxOf
  have : l.findIdx? p = none := by
    rw [List.findIdx?_eq_none_iff]
    intro x hx
    obtain ⟨k, hk⟩ := List.mem_iff_getElem?.1 hx
    rw [hb k x hk]
  rw [this]
theorem idxOf_any {α : Type} (p : α → Bool) (l : List α) : decide (0 ≤ idxOf p l) = l.any p := by
  unfold idxOf
  cases h : l.findIdx? p with
  | none =>
    rw [List.findIdx?_eq_none_iff] at h
    rw [Bool.eq_iff_iff]; simp
    intro x hx; simpa using h x hx
  | some i =>
    rw [List.findIdx?_eq_some_iff_getElem] at h
    obtain ⟨hi, hp, _⟩ := h
    rw [Bool.eq_iff_iff]; simp
    exact ⟨l[i], List.getElem_mem hi, hp⟩

/-- A call of a function that has a body enters it. -/
def Enters (f : FuncId) : Prop := ∀ (args : Array Value) (w : World), (callFunc f args).run Tryz.prog w = .ok (.enter f args) w
theorem enters_of {f : FuncId} {fn : Func} {c : Code} (hf : Tryz.prog.funcs[f]? = some fn) (hname : (fn.name == "runtime.NumGoroutine") = false) (hb : fn.body = some c) : Enters f := fun args w => by
  have h1 : fn.name ≠ "runtime.NumGoroutine" := by simpa using hname
  simp [callFunc, hf, h1, hb]
theorem enters85 : Enters 85 := enters_of Tryz.func85 (by kernel_rfl) rfl
theorem enters86 : Enters 86 := enters_of Tryz.func86 (by kernel_rfl) rfl
theorem enters82 : Enters 82 := enters_of Tryz.func82 (by kernel_rfl) rfl
set_option maxHeartbeats 1000000 in
theorem indexFunc_ints (f : FuncId) (caps : Array Value) (p : Int → Bool) (a : Option Addr) (n c B : Nat) (xs : List Int) (w : World) (hr : Reads w B 1 a n (intCells xs)) (hn : n = xs.length) (hs : n ≤ 140737488351232) (hf : Enters f)
    (hp : ∀ x, Calls Tryz.prog f (#[.int .i64 x] ++ caps) w fun e w' => e = .returned (.bool (p x)) ∧ w = w') :
    Calls Tryz.prog 138 #[.slice a n c, .func (.func f) #[] caps] w fun e w' => e = .returned (.int .i64 (idxOf p xs)) ∧ w = w' := by
  have HP := Lib.hid hp
  have hen := fun x w => hf (#[.int .i64 x] ++ caps) w
  have HR := Lib.hid hr
  have HN := Lib.hid hn
  clear hp hr hn
  go_enter Tryz.func138, Tryz.ntmps138
  go_wp2
  go_loop [8] (fun i => ∃ k : Nat, k ≤ n ∧ i = .int .i64 k ∧ ∀ j y, j < k → xs[j]? = some y → p y = false) (fun i => n - (intOf i).toNat)
  case atStart => exact ⟨0, by omega, rfl, fun j y hj => by omega⟩
  case round =>
    obtain ⟨k, hk, rfl, hno⟩ := hrel
    have HNO := Lib.hid hno
    clear hno
    by_cases hlt : k < n
    · obtain ⟨ad, x, rfl, hx, hb, hcell⟩ := Reads.elem1 HR.out HN.out hlt
      have HX := Lib.hid hx
      clear hx hb
      go_wp2_with (refine (HP.out _).mono ?_; rintro e w' ⟨rfl, rfl⟩)
      · have hpx : p x = true := by assumption
        go_ret
        exact ⟨ret_int (idxOf_hit HX.out hpx HNO.out).symm, rfl⟩
      · have hpx : p x = false := by assumption
        go_round
        case rel => exact ⟨k + 1, by omega, by go_num, fun j y hj hy => by
          rcases Nat.lt_succ_iff_lt_or_eq.1 hj with h | rfl
          · exact HNO.out j y h hy
          · rw [HX.out] at hy; cases hy; exact hpx⟩
        case measure => simp [intOf]; omega
    · go_wp2
      go_ret
      exact ⟨ret_int (idxOf_miss fun j y hy => HNO.out j y (by have := (List.getElem?_eq_some_iff.1 hy).1; have := HN.out; omega) hy).symm, rfl⟩
set_option maxHeartbeats 1000000 in
theorem indexFunc_bytes (f : FuncId) (caps : Array Value) (p : Int → Bool) (a : Option Addr) (n c B : Nat) (xs : List Int) (w : World) (hr : Reads w B 1 a n (xs.map (Value.int .u8))) (hn : n = xs.length) (hs : n ≤ 140737488351232) (hf : Enters f)
    (hp : ∀ x, Calls Tryz.prog f (#[.int .u8 x] ++ caps) w fun e w' => e = .returned (.bool (p x)) ∧ w = w') :
    Calls Tryz.prog 139 #[.slice a n c, .func (.func f) #[] caps] w fun e w' => e = .returned (.int .i64 (idxOf p xs)) ∧ w = w' := by
  have HP := Lib.hid hp
  have hen := fun x w => hf (#[.int .u8 x] ++ caps) w
  have HR := Lib.hid hr
  have HN := Lib.hid hn
  clear hp hr hn
  go_enter Tryz.func139, Tryz.ntmps139
  go_wp2
  go_loop [8] (fun i => ∃ k : Nat, k ≤ n ∧ i = .int .i64 k ∧ ∀ j y, j < k → xs[j]? = some y → p y = false) (fun i => n - (intOf i).toNat)
  case atStart => exact ⟨0, by omega, rfl, fun j y hj => by omega⟩
  case round =>
    obtain ⟨k, hk, rfl, hno⟩ := hrel
    have HNO := Lib.hid hno
    clear hno
    by_cases hlt : k < n
    · obtain ⟨ad, x, rfl, hx, hb, hcell⟩ := Reads.elem1 HR.out HN.out hlt
      have HX := Lib.hid hx
      clear hx hb
      go_wp2_with (refine (HP.out _).mono ?_; rintro e w' ⟨rfl, rfl⟩)
      · have hpx : p x = true := by assumption
        go_ret
        exact ⟨ret_int (idxOf_hit HX.out hpx HNO.out).symm, rfl⟩
      · have hpx : p x = false := by assumption
        go_round
        case rel => exact ⟨k + 1, by omega, by go_num, fun j y hj hy => by
          rcases Nat.lt_succ_iff_lt_or_eq.1 hj with h | rfl
          · exact HNO.out j y h hy
          · rw [HX.out] at hy; cases hy; exact hpx⟩
        case measure => simp [intOf]; omega
    · go_wp2
      go_ret
      exact ⟨ret_int (idxOf_miss fun j y hy => HNO.out j y (by have := (List.getElem?_eq_some_iff.1 hy).1; have := HN.out; omega) hy).symm, rfl⟩
set_option maxHeartbeats 1000000 in
theorem containsFunc_ints (f : FuncId) (caps : Array Value) (p : Int → Bool) (a : Option Addr) (n c B : Nat) (xs : List Int) (w : World) (hr : Reads w B 1 a n (intCells xs)) (hn : n = xs.length) (hs : n ≤ 140737488351232) (hf : Enters f)
    (hp : ∀ x, Calls Tryz.prog f (#[.int .i64 x] ++ caps) w fun e w' => e = .returned (.bool (p x)) ∧ w = w') :
    Calls Tryz.prog 84 #[.slice a n c, .func (.func f) #[] caps] w fun e w' => e = .returned (.bool (xs.any p)) ∧ w = w' := by
  have h := indexFunc_ints f caps p a n c B xs w hr hn hs hf hp
  have HI := Lib.hid h
  clear h hp hr hn
  go_enter Tryz.func84, Tryz.ntmps84
  go_wp2_with (go_at_call 138; refine (HI.out).mono ?_; rintro e w' ⟨rfl, rfl⟩)
  go_ret
  exact ⟨ret_bool (idxOf_any p xs), rfl⟩
set_option maxHeartbeats 1000000 in
theorem containsFunc_bytes (f : FuncId) (caps : Array Value) (p : Int → Bool) (a : Option Addr) (n c B : Nat) (xs : List Int) (w : World) (hr : Reads w B 1 a n (xs.map (Value.int .u8))) (hn : n = xs.length) (hs : n ≤ 140737488351232) (hf : Enters f)
    (hp : ∀ x, Calls Tryz.prog f (#[.int .u8 x] ++ caps) w fun e w' => e = .returned (.bool (p x)) ∧ w = w') :
    Calls Tryz.prog 87 #[.slice a n c, .func (.func f) #[] caps] w fun e w' => e = .returned (.bool (xs.any p)) ∧ w = w' := by
  have h := indexFunc_bytes f caps p a n c B xs w hr hn hs hf hp
  have HI := Lib.hid h
  clear h hp hr hn
  go_enter Tryz.func87, Tryz.ntmps87
  go_wp2_with (go_at_call 139; refine (HI.out).mono ?_; rintro e w' ⟨rfl, rfl⟩)
  go_ret
  exact ⟨ret_bool (idxOf_any p xs), rfl⟩
end Go.Proofs.YtmfnholhhakgaaaGreatDoor
end
section
namespace Go.Proofs.YtmfnholhhakgaaaGreatDoor
open Go Go.Proofs Go.RowKit
set_option maxRecDepth 100000
/-- A real is normal. -/
def realB (man ex : Int) : Bool := decide ((man = 0 ∧ ex = 0) ∨ ((1 ≤ man ∧ man < 16777216 ∨ 1 ≤ -man ∧ -man < 16777216) ∧ (ex = -150 ∨ (8388608 ≤ man ∨ 8388608 ≤ -man) ∧ -150 < ex ∧ ex ≤ 150)))
set_option maxHeartbeats 2000000 in
theorem real_any (man ex : Int) (hm : I64 man) (w : World) : Calls Tryz.prog 88 #[.agg #[.int .i64 man, .int .i64 ex]] w fun e w' => e = .returned (.bool (realB man ex)) ∧ Below w.heap.size w w' := by
  have hb : ∀ o, Below w.heap.size w (w.alloc o) := fun o => (Below.refl w.heap.size w).alloc (Nat.le_refl _) o
  go_enter Tryz.func88, Tryz.ntmps88
  go_wp2
  all_goals go_ret
  all_goals refine ⟨ret_bool ?_, hb _⟩
  all_goals (clear hb; unfold realB; unfold I64 at hm; rw [Bool.eq_iff_iff]; (try simp only [decide_eq_true_eq, Bool.or_eq_true, beq_iff_eq, Bool.false_eq_true, true_iff, false_iff] at *); (try unfold wrap64 at *); first | omega | (simp only [true_or, and_true]; omega))
set_option maxHeartbeats 2000000 in
theorem refReal_any (man ex : Int) (hm : I64 man) (w : World) : Calls Tryz.prog 106 #[.agg #[.int .i64 man, .int .i64 ex]] w fun e w' => e = .returned (.bool (realB man ex)) ∧ Below w.heap.size w w' := by
  have hb : ∀ o, Below w.heap.size w (w.alloc o) := fun o => (Below.refl w.heap.size w).alloc (Nat.le_refl _) o
  go_enter Tryz.func106, Tryz.ntmps106
  go_wp2
  all_goals go_ret
  all_goals refine ⟨ret_bool ?_, hb _⟩
  all_goals (clear hb; unfold realB; unfold I64 at hm; rw [Bool.eq_iff_iff]; (try simp only [decide_eq_true_eq, Bool.or_eq_true, beq_iff_eq, beq_eq_false_iff_ne, ne_eq, Bool.false_eq_true, true_iff, false_iff] at *); (try unfold wrap64 at *); first | omega | (simp only [true_or, and_true]; omega))
end Go.Proofs.YtmfnholhhakgaaaGreatDoor
end
