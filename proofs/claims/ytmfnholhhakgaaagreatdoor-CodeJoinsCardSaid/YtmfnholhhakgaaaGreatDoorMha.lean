/- The tables of names and formats; ranges over maps; Name, kinds, Names of the reference. -/
import Derived.Test.YtmfnholhhakgaaaGreatDoorProg
import Derived.WalkKit
import Derived.ProofKit
import Derived.Maps.RangeWalk
import Derived.Deep.Draws
import Derived.WalkLawsBesides
import Derived.WalkSpells
import Derived.Lib.Hide
section
namespace Go.Proofs.YtmfnholhhakgaaaGreatDoor
open Go Go.Proofs Go.RowKit
set_option maxRecDepth 100000
/-- Name and kinds of operands of each operation, in the order of their numbers, from 1 on. -/
def fmtTab : List (List UInt8 × Int × Int × Int) := [
  ([104, 97, 108, 116], 0, 0, 0),
  ([105, 110, 116], 1, 0, 0),
  ([114, 101, 97, 108], 2, 0, 0),
  ([98, 111, 111, 108], 3, 0, 0),
  ([115, 116, 114, 105, 110, 103], 4, 0, 0),
  ([112, 111, 112], 0, 0, 0),
  ([108, 111, 97, 100], 5, 6, 0),
  ([114, 101, 102], 5, 6, 9),
  ([97, 99, 116, 117, 97, 108], 5, 6, 0),
  ([118, 97, 108, 117, 101], 5, 6, 0),
  ([97, 100, 100, 114, 101, 115, 115], 5, 6, 0),
  ([100, 101, 115, 105, 103], 5, 6, 0),
  ([108, 111, 97, 100, 111, 119, 110], 11, 0, 0),
  ([114, 101, 102, 111, 119, 110], 11, 0, 0),
  ([97, 99, 116, 117, 97, 108, 111, 119, 110], 12, 0, 0),
  ([110, 111, 116, 104, 105, 110, 103], 0, 0, 0),
  ([116, 104, 117, 110, 107], 13, 0, 0),
  ([112, 114, 111, 99], 14, 5, 0),
  ([115, 101, 108, 102], 15, 5, 0),
  ([108, 97, 98, 101, 108], 16, 5, 0),
  ([115, 119, 105, 116, 99, 104], 17, 5, 0),
  ([99, 97, 108, 108], 18, 0, 0),
  ([102, 117, 110, 99], 18, 0, 0),
  ([114, 101, 116, 117, 114, 110], 7, 0, 0),
  ([114, 101, 115, 117, 108, 116], 0, 0, 0),
  ([101, 110, 116, 101, 114], 8, 0, 0),
  ([108, 101, 97, 118, 101], 0, 0, 0),
  ([109, 97, 114, 107], 0, 0, 0),
  ([122, 101, 114, 111], 6, 9, 0),
  ([107, 101, 101, 112], 6, 0, 0),
  ([97, 114, 114, 97, 121], 6, 19, 9),
  ([108, 105, 107, 101], 6, 6, 0),
  ([99, 111, 112, 121], 6, 9, 0),
  ([97, 114, 114, 97, 121, 111, 119, 110], 12, 19, 9),
  ([108, 105, 107, 101, 111, 119, 110], 12, 12, 0),
  ([110, 101, 101, 100, 97, 114, 114, 97, 121], 19, 0, 0),
  ([110, 101, 101, 100, 115, 119, 105, 116, 99, 104], 0, 0, 0),
  ([115, 117, 98, 115], 0, 0, 0),
  ([105, 110, 100, 101, 120], 19, 0, 0),
  ([102, 101, 116, 99, 104], 0, 0, 0),
  ([115, 116, 111, 114, 101], 20, 0, 0),
  ([99, 111, 110, 118, 101, 114, 116], 9, 0, 0),
  ([111, 110, 101], 21, 0, 0),
  ([116, 119, 111], 22, 0, 0),
  ([119, 105, 116, 104, 105, 110], 0, 0, 0),
  ([102, 110], 23, 0, 0),
  ([106, 117, 109, 112], 16, 0, 0),
  ([106, 117, 109, 112, 102, 97, 108, 115, 101], 16, 0, 0),
  ([103, 111, 116, 111], 0, 0, 0),
  ([101, 108, 101, 109, 101, 110, 116], 0, 0, 0),
  ([111, 117, 116], 10, 0, 0),
  ([105, 110], 0, 0, 0),
  ([116, 114, 97, 112], 24, 0, 0)]
def opAt (n : Int) : Option (List UInt8 × Int × Int × Int) := if 1 ≤ n then fmtTab[(n - 1).toNat]? else none
def opIs (n : Int) : Bool := (opAt n).isSome
def opName (n : Int) : ByteArray := ⟨(((opAt n).map (·.1)).getD []).toArray⟩
def opK0 (n : Int) : Int := ((opAt n).map (·.2.1)).getD 0
def opK1 (n : Int) : Int := ((opAt n).map (·.2.2.1)).getD 0
def opK2 (n : Int) : Int := ((opAt n).map (·.2.2.2)).getD 0
def fmtVal (x : List UInt8 × Int × Int × Int) : Value := .agg #[.string ⟨x.1.toArray⟩, .int .i64 x.2.1, .int .i64 x.2.2.1, .int .i64 x.2.2.2]
/-- The entries of the map, in the order in which they are laid. -/
def fmtEntries : List MapEntry := fmtTab.zipIdx.map fun x => { key := .int .i64 (x.2 + 1 : Nat), val := fmtVal x.1, born := x.2 }
/-- The map of which the first i entries have been laid. -/
def fm (i : Nat) : Obj := .map (fmtEntries.take i).toArray i
theorem opIs_iff (n : Int) : opIs n = true ↔ 1 ≤ n ∧ n ≤ 53 := by
  unfold opIs opAt
  by_cases h : 1 ≤ n
  · have : fmtTab.length = 53 := rfl
    simp only [h, if_true, true_and]
    rw [Option.isSome_iff_exists]
    constructor
    · rintro ⟨x, hx⟩
      have := (List.getElem?_eq_some_iff.1 hx).1
      omega
    · intro h2
      exact ⟨_, List.getElem?_eq_getElem (by omega)⟩
  · simp [h]

end Go.Proofs.YtmfnholhhakgaaaGreatDoor
end
section
namespace Go.Proofs.YtmfnholhhakgaaaGreatDoor
open Go Go.Proofs Go.RowKit

theorem findNow_none {q : IntKind} {n : Int} : ∀ (l : List MapEntry) (i : Nat), (∀ x ∈ l, ∃ m, x.key = .int q m ∧ m ≠ n) → Instr.findNow (.int q) (.int q n) l i = some none
  | [], _, _ => rfl
  | e :: l, i, h => by
    obtain ⟨m, hm, hne⟩ := h e (by simp)
    have hb : (n == m) = false := by simp; exact fun h => hne h.symm
    simp only [Instr.findNow, hm, Instr.sameNow, if_true, hb]
    exact findNow_none l (i + 1) (fun x hx => h x (by simp [hx]))

theorem run_check_int' {P : Program} {k : TypeId} {q : IntKind} (hk : P.underlying k = some (.int q)) (w : World) (em : Bool) (m : Nat) (n : Int) : (Instr.checkKey em (m + 1) k (.int q n)).run P w = .ok () w := by
  simp [Instr.checkKey, run_underlying hk]
theorem run_check_int {P : Program} {k : TypeId} {q : IntKind} (hk : P.underlying k = some (.int q)) (w : World) (em : Bool) (n : Int) : (Instr.checkKey em 10000 k (.int q n)).run P w = .ok () w := by
  exact run_check_int' hk w em 9999 n

theorem run_find_int {P : Program} {k : TypeId} {q : IntKind} (hk : P.underlying k = some (.int q)) (w : World) (n : Int) (es : List MapEntry) {r : Option (Nat × Value)} (h : Instr.findNow (.int q) (.int q n) es 0 = some r) :
    (Instr.findKey k (.int q n) es).run P w = .ok r w := by
  simp [Instr.findKey, run_underlying hk, h]

theorem run_insert_fresh {P : Program} {t k e : TypeId} {q : IntKind} (ht : P.underlying t = some (.map k e)) (hk : P.underlying k = some (.int q)) (w : World) (es : Array MapEntry) (c : Nat) (n : Int) (v : Value)
    (hf : ∀ x ∈ es.toList, ∃ m, x.key = .int q m ∧ m ≠ n) :
    (Instr.mapUpdate t (.map (some w.heap.size)) (.int q n) v).run P (w.alloc (.map es c)) = .ok () (w.alloc (.map (es.push { key := .int q n, val := v, born := c }) (c + 1))) := by
  have h1 := findNow_none (q := q) (n := n) es.toList 0 hf
  have hb : (w.alloc (.map es c)).heap[w.heap.size]? = some (.map es c) := (MapKept.heap_alloc w _).1
  simp [Instr.mapUpdate, run_underlying ht, MapKept.run_getObj_map hb, run_check_int hk, run_find_int hk _ _ _ h1, MapKept.run_setObj_map _ hb, Result.andThen]
  show World.mk _ _ _ _ _ = World.mk _ _ _ _ _
  congr 1
  show (w.heap.push _).setIfInBounds w.heap.size _ = w.heap.push _
  apply Array.ext_getElem?
  intro i
  simp only [Array.getElem?_setIfInBounds, Array.getElem?_push, Array.size_push]
  by_cases h : i = w.heap.size
  · subst h; simp
  · rw [if_neg (fun e => h e.symm), if_neg h, if_neg h]

/-- A look-up at entries that are known. -/
theorem run_lookup_ok {P : Program} {t k e : TypeId} {q : IntKind} (ht : P.underlying t = some (.map k e)) (hk : P.underlying k = some (.int q)) (w : World) {b : Nat} {es : Array MapEntry} {c : Nat}
    (hb : w.heap[b]? = some (.map es c)) (n : Int) {i : Nat} {v : Value} (h : Instr.findNow (.int q) (.int q n) es.toList 0 = some (some (i, v))) (ok : Bool) :
    (Instr.lookup t (.map (some b)) (.int q n) ok).run P w = .ok (if ok then .tuple #[v, .bool true] else v) w := by
  simp [Instr.lookup, run_underlying ht, MapKept.run_getObj_map hb, run_check_int hk, run_find_int hk _ _ _ h, Result.andThen]
theorem run_lookup_no {P : Program} {t k e : TypeId} {q : IntKind} (ht : P.underlying t = some (.map k e)) (hk : P.underlying k = some (.int q)) (w : World) {b : Nat} {es : Array MapEntry} {c : Nat}
    (hb : w.heap[b]? = some (.map es c)) (n : Int) {z : Value} (hz : (zeroValue e).run P w = .ok z w) (h : Instr.findNow (.int q) (.int q n) es.toList 0 = some none) (ok : Bool) :
    (Instr.lookup t (.map (some b)) (.int q n) ok).run P w = .ok (if ok then .tuple #[z, .bool false] else z) w := by
  simp [Instr.lookup, run_underlying ht, MapKept.run_getObj_map hb, run_check_int hk, run_find_int hk _ _ _ h, hz, Result.andThen]
end Go.Proofs.YtmfnholhhakgaaaGreatDoor
end
section
namespace Go.Proofs.YtmfnholhhakgaaaGreatDoor
open Go Go.Proofs Go.RowKit

theorem setBlock_same {w : World} {b : Nat} {x : Obj} (hb : w.heap[b]? = some x) (o : Obj) : (ChangeMaps.setBlock w b o).heap[b]? = some o := by
  have := (Array.getElem?_eq_some_iff.1 hb).1
  simp [ChangeMaps.setBlock, this]
theorem setBlock_other {w : World} {b : Nat} (o : Obj) {i : Nat} (hi : i ≠ b) : (ChangeMaps.setBlock w b o).heap[i]? = w.heap[i]? := by
  simp [ChangeMaps.setBlock, Ne.symm hi]
/-- 'next' over a map that is as it was when the loop began, in whatever order the tape says. -/
theorem run_next_at {P : Program} (w : World) (ty : TypeId) {r bm since c0 : Nat} {seen : Array Nat} {es : Array MapEntry} {clock : Nat} (hr : w.heap[r]? = some (.mapIter (some bm) since seen c0)) (hb : w.heap[bm]? = some (.map es clock))
    (hold : ∀ x ∈ es.toList, x.born < since) (hsc : since ≤ c0) :
    ((∀ x ∈ es.toList, x.born ∈ seen) ∧ (Instr.next (.pointer (some ⟨r, 0, none⟩)) false ty).run P w = .ok (.tuple #[.bool false]) w) ∨
    ∃ e ∈ es.toList, e.born ∉ seen ∧ ∃ n : Nat, (Instr.next (.pointer (some ⟨r, 0, none⟩)) false ty).run P w = .ok (.tuple #[.bool true, e.key, e.val]) (ChangeMaps.setBlock (w.drewN n) r (.mapIter (some bm) since (seen.push e.born) clock)) := by
  simp only [Instr.next, getObj, Sem.run_bind, Sem.run, hr, hb, Result.andThen, next_test_false seen es since c0 hold hsc, Bool.false_eq_true, if_false]
  have hmem : ∀ x ∈ (Array.filter (fun e => !seen.contains e.born) es).toList, x.born < since ∧ x ∈ es.toList ∧ x.born ∉ seen := fun x hx => by
    simp at hx
    exact ⟨hold x (by simpa using hx.1), by simpa using hx.1, hx.2⟩
  have hnil : (Array.filter (fun e => !seen.contains e.born) es).size = 0 → ∀ x ∈ es.toList, x.born ∈ seen := fun h x hx => by
    have h1 : Array.filter (fun e => !seen.contains e.born) es = #[] := Array.eq_empty_of_size_eq_zero h
    rw [Array.filter_eq_empty_iff] at h1
    simpa using h1 x (by simpa using hx)
  generalize Array.filter (fun e => !seen.contains e.born) es = L at hmem hnil ⊢
  have e1 : L.filter (fun x => decide (x.born < since)) = L := Array.filter_eq_self.2 (fun x hx => by simpa using (hmem x (by simpa using hx)).1)
  have e2 : L.filter (fun x => decide (x.born ≥ since)) = #[] := by
    rw [Array.filter_eq_empty_iff]
    intro x hx
    have := (hmem x (by simpa using hx)).1
    simp
    omega
  simp only [e1, e2, Array.append_empty]
  by_cases h0 : L.size = 0
  · left
    have : L = #[] := Array.eq_empty_of_size_eq_zero h0
    subst this
    refine ⟨hnil rfl, ?_⟩
    simp [choose, Sem.run, Question.forced]
  · right
    have hne : L.isEmpty = false := by simp [Array.isEmpty, h0]
    simp only [hne, Bool.false_eq_true, if_false, Array.empty_append, Array.size_map]
    have hch : ∃ (j : Nat) (n : Nat), j < L.size ∧ (choose (Question.mapNext L.size)).run P w = .ok j (w.drewN n) := by
      by_cases hf : L.size ≤ 1
      · exact ⟨0, 0, by omega, by simp [choose, Sem.run, Question.forced, hf]; rfl⟩
      · exact ⟨_, 1, Nat.mod_lt _ (by omega), by
          simp only [choose, Sem.run, Question.forced, decide_eq_true_eq, hf, if_false, Question.cut]
          rfl⟩
    obtain ⟨j, n, hj, hrun⟩ := hch
    have hm := hmem L[j] (by simp)
    refine ⟨L[j], hm.2.1, hm.2.2, n, ?_⟩
    have hset : ∀ o' : Obj, (setObj r o').run P (w.drewN n) = .ok () (ChangeMaps.setBlock (w.drewN n) r o') := fun o' => by
      have : (w.drewN n).heap[r]? = some (.mapIter (some bm) since seen c0) := hr
      simp only [setObj, Sem.run, this]
      rfl
    simp only [hrun, Array.getElem?_map, Array.getElem?_eq_getElem hj, Option.map_some, Sem.run_bind, hset, Result.andThen, Sem.run_pure]

theorem run_entry_at {P : Program} (w : World) {r bm since : Nat} {seen : Array Nat} {es : Array MapEntry} {clock : Nat} {e : MapEntry} (hr : w.heap[r]? = some (.mapIter (some bm) since (seen.push e.born) clock)) (hb : w.heap[bm]? = some (.map es clock))
    (he : e ∈ es.toList) (hn : (es.toList.map (·.born)).Nodup) :
    (Instr.entry (.pointer (some ⟨r, 0, none⟩))).run P w = .ok (.tuple #[e.key, e.val]) w := by
  have hf : es.find? (·.born == e.born) = some e := by rw [← Array.find?_toList]; exact find_born e es.toList hn he
  simp only [Instr.entry, getObj, Sem.run_bind, Sem.run, hr, hb, Result.andThen, Array.back?_push, bne_self_eq_false, Bool.false_eq_true, if_false, hf]
  rfl

section
variable {P : Program} (w : World) {ops : Array Oper} {rest : List Oper} {o : Oper} {a : Act} {Q : Exit → Act → World → Prop}
theorem wpList_next_at (hg : o.guard = none) (it : Operand) (hop : o.op = Op.next it false) {r bm since c0 : Nat} {seen : Array Nat} {es : Array MapEntry} {clock : Nat} (hit : a.eval it = .pointer (some ⟨r, 0, none⟩))
    (hr : w.heap[r]? = some (.mapIter (some bm) since seen c0)) (hb : w.heap[bm]? = some (.map es clock)) (hne : bm ≠ r)
    (hold : ∀ x ∈ es.toList, x.born < since) (hsc : since ≤ c0) (hn : (es.toList.map (·.born)).Nodup)
    (hDone : (∀ x ∈ es.toList, x.born ∈ seen) → wpList P ops Q rest (a.put o.dst (.tuple #[.bool false])) w)
    (hMore : ∀ e ∈ es.toList, e.born ∉ seen → ∀ w' : World, w'.heap[r]? = some (.mapIter (some bm) since (seen.push e.born) clock) → w.grownBy w' (some r) → w'.heap.size = w.heap.size →
      (Instr.entry (.pointer (some ⟨r, 0, none⟩))).run P w' = .ok (.tuple #[e.key, e.val]) w' → wpList P ops Q rest (a.put o.dst (.tuple #[.bool true, e.key, e.val])) w') :
    wpList P ops Q (o :: rest) a w := by
  refine wpList_plain hg fun K' hK' => ?_
  unfold Oper.wp
  rcases run_next_at (P := P) w o.type hr hb hold hsc with ⟨h1, hrun⟩ | ⟨e, he, hes, n, hrun⟩
  · simp [execOp, hop, hit, hrun, Result.andThen]
    exact hK' _ _ (hDone h1)
  · simp [execOp, hop, hit, hrun, Result.andThen]
    have hd : (w.drewN n).heap[r]? = some (.mapIter (some bm) since seen c0) := hr
    have hs := setBlock_same hd (.mapIter (some bm) since (seen.push e.born) clock)
    have ho : ∀ i, i ≠ r → (ChangeMaps.setBlock (w.drewN n) r (.mapIter (some bm) since (seen.push e.born) clock)).heap[i]? = w.heap[i]? := fun i hi => setBlock_other _ hi
    refine hK' _ _ (hMore e he hes _ hs ⟨rfl, rfl, rfl, by simp [ChangeMaps.setBlock], fun i _ hi => ho i (fun e => hi (by rw [e]))⟩ (by simp [ChangeMaps.setBlock]) (run_entry_at _ hs ((ho bm hne).trans hb) he hn))
end
end Go.Proofs.YtmfnholhhakgaaaGreatDoor
end
section
namespace Go.Proofs.YtmfnholhhakgaaaGreatDoor
open Go Go.Proofs Go.RowKit
set_option maxRecDepth 100000
theorem List.getElem?_take_eq_some_iff' {α : Type} {l : List α} {n i : Nat} {a : α} : (l.take n)[i]? = some a ↔ i < n ∧ l[i]? = some a := by
  rw [List.getElem?_take]
  split
  · simp_all
  · constructor
    · intro h; cases h
    · intro h; omega
theorem fmtEntries_keys (i : Nat) : ∀ x ∈ fmtEntries.take i, ∃ m : Nat, x.key = .int .i64 (m + 1 : Nat) ∧ m < i := by
  intro x hx
  obtain ⟨j, hj⟩ := List.mem_iff_getElem?.1 hx
  obtain ⟨hj1, hj2⟩ := List.getElem?_take_eq_some_iff'.1 hj
  unfold fmtEntries at hj2
  rw [List.getElem?_map, List.getElem?_zipIdx] at hj2
  obtain ⟨y, hy, rfl⟩ := Option.map_eq_some_iff.1 hj2
  obtain ⟨z, _, rfl⟩ := Option.map_eq_some_iff.1 hy
  exact ⟨j, by simp, hj1⟩
theorem fmt_ins (w : World) (i : Nat) (x : List UInt8 × Int × Int × Int) (hx : fmtTab[i]? = some x) :
    (Instr.mapUpdate 79 (.map (some w.heap.size)) (.int .i64 (i + 1 : Nat)) (fmtVal x)).run Tryz.prog (w.alloc (fm i)) = .ok () (w.alloc (fm (i + 1))) := by
  have h := run_insert_fresh Tryz.underlying79 Tryz.underlying3 w (fmtEntries.take i).toArray i (i + 1 : Nat) (fmtVal x) (by
    intro y hy
    obtain ⟨m, hm, hlt⟩ := fmtEntries_keys i y (by simpa using hy)
    exact ⟨_, hm, by omega⟩)
  rw [show fm i = .map (fmtEntries.take i).toArray i from rfl, h]
  have he : fmtEntries[i]? = some { key := .int .i64 (i + 1 : Nat), val := fmtVal x, born := i } := by
    unfold fmtEntries
    rw [List.getElem?_map, List.getElem?_zipIdx, hx]
    simp
  have : fmtEntries.take (i + 1) = fmtEntries.take i ++ [{ key := .int .i64 (i + 1 : Nat), val := fmtVal x, born := i }] := by
    rw [List.take_add_one, he]; rfl
  simp [fm, this]
theorem fmt_ins' (w : World) (i j : Nat) (n : Int) (v : Value) (hj : j = i + 1) (hn : n = (i + 1 : Nat)) (hv : fmtTab[i]?.map fmtVal = some v) :
    (Instr.mapUpdate 79 (.map (some w.heap.size)) (.int .i64 n) v).run Tryz.prog (w.alloc (fm i)) = .ok () (w.alloc (fm j)) := by
  obtain ⟨x, hx, rfl⟩ := Option.map_eq_some_iff.1 hv
  subst hj hn
  exact fmt_ins w i x hx
namespace FmtIns
theorem i0 (w : World) : (Instr.mapUpdate 79 (.map (some w.heap.size)) (.int .i64 1) (.agg #[.string { data := #[104, 97, 108, 116] }, .int .i64 0, .int .i64 0, .int .i64 0])).run Tryz.prog (w.alloc (fm 0)) = .ok () (w.alloc (fm 1)) := fmt_ins' w 0 1 _ _ rfl rfl rfl
theorem i1 (w : World) : (Instr.mapUpdate 79 (.map (some w.heap.size)) (.int .i64 2) (.agg #[.string { data := #[105, 110, 116] }, .int .i64 1, .int .i64 0, .int .i64 0])).run Tryz.prog (w.alloc (fm 1)) = .ok () (w.alloc (fm 2)) := fmt_ins' w 1 2 _ _ rfl rfl rfl
theorem i2 (w : World) : (Instr.mapUpdate 79 (.map (some w.heap.size)) (.int .i64 3) (.agg #[.string { data := #[114, 101, 97, 108] }, .int .i64 2, .int .i64 0, .int .i64 0])).run Tryz.prog (w.alloc (fm 2)) = .ok () (w.alloc (fm 3)) := fmt_ins' w 2 3 _ _ rfl rfl rfl
theorem i3 (w : World) : (Instr.mapUpdate 79 (.map (some w.heap.size)) (.int .i64 4) (.agg #[.string { data := #[98, 111, 111, 108] }, .int .i64 3, .int .i64 0, .int .i64 0])).run Tryz.prog (w.alloc (fm 3)) = .ok () (w.alloc (fm 4)) := fmt_ins' w 3 4 _ _ rfl rfl rfl
theorem i4 (w : World) : (Instr.mapUpdate 79 (.map (some w.heap.size)) (.int .i64 5) (.agg #[.string { data := #[115, 116, 114, 105, 110, 103] }, .int .i64 4, .int .i64 0, .int .i64 0])).run Tryz.prog (w.alloc (fm 4)) = .ok () (w.alloc (fm 5)) := fmt_ins' w 4 5 _ _ rfl rfl rfl
theorem i5 (w : World) : (Instr.mapUpdate 79 (.map (some w.heap.size)) (.int .i64 6) (.agg #[.string { data := #[112, 111, 112] }, .int .i64 0, .int .i64 0, .int .i64 0])).run Tryz.prog (w.alloc (fm 5)) = .ok () (w.alloc (fm 6)) := fmt_ins' w 5 6 _ _ rfl rfl rfl
theorem i6 (w : World) : (Instr.mapUpdate 79 (.map (some w.heap.size)) (.int .i64 7) (.agg #[.string { data := #[108, 111, 97, 100] }, .int .i64 5, .int .i64 6, .int .i64 0])).run Tryz.prog (w.alloc (fm 6)) = .ok () (w.alloc (fm 7)) := fmt_ins' w 6 7 _ _ rfl rfl rfl
theorem i7 (w : World) : (Instr.mapUpdate 79 (.map (some w.heap.size)) (.int .i64 8) (.agg #[.string { data := #[114, 101, 102] }, .int .i64 5, .int .i64 6, .int .i64 9])).run Tryz.prog (w.alloc (fm 7)) = .ok () (w.alloc (fm 8)) := fmt_ins' w 7 8 _ _ rfl rfl rfl
theorem i8 (w : World) : (Instr.mapUpdate 79 (.map (some w.heap.size)) (.int .i64 9) (.agg #[.string { data := #[97, 99, 116, 117, 97, 108] }, .int .i64 5, .int .i64 6, .int .i64 0])).run Tryz.prog (w.alloc (fm 8)) = .ok () (w.alloc (fm 9)) := fmt_ins' w 8 9 _ _ rfl rfl rfl
theorem i9 (w : World) : (Instr.mapUpdate 79 (.map (some w.heap.size)) (.int .i64 10) (.agg #[.string { data := #[118, 97, 108, 117, 101] }, .int .i64 5, .int .i64 6, .int .i64 0])).run Tryz.prog (w.alloc (fm 9)) = .ok () (w.alloc (fm 10)) := fmt_ins' w 9 10 _ _ rfl rfl rfl
theorem i10 (w : World) : (Instr.mapUpdate 79 (.map (some w.heap.size)) (.int .i64 11) (.agg #[.string { data := #[97, 100, 100, 114, 101, 115, 115] }, .int .i64 5, .int .i64 6, .int .i64 0])).run Tryz.prog (w.alloc (fm 10)) = .ok () (w.alloc (fm 11)) := fmt_ins' w 10 11 _ _ rfl rfl rfl
theorem i11 (w : World) : (Instr.mapUpdate 79 (.map (some w.heap.size)) (.int .i64 12) (.agg #[.string { data := #[100, 101, 115, 105, 103] }, .int .i64 5, .int .i64 6, .int .i64 0])).run Tryz.prog (w.alloc (fm 11)) = .ok () (w.alloc (fm 12)) := fmt_ins' w 11 12 _ _ rfl rfl rfl
theorem i12 (w : World) : (Instr.mapUpdate 79 (.map (some w.heap.size)) (.int .i64 13) (.agg #[.string { data := #[108, 111, 97, 100, 111, 119, 110] }, .int .i64 11, .int .i64 0, .int .i64 0])).run Tryz.prog (w.alloc (fm 12)) = .ok () (w.alloc (fm 13)) := fmt_ins' w 12 13 _ _ rfl rfl rfl
theorem i13 (w : World) : (Instr.mapUpdate 79 (.map (some w.heap.size)) (.int .i64 14) (.agg #[.string { data := #[114, 101, 102, 111, 119, 110] }, .int .i64 11, .int .i64 0, .int .i64 0])).run Tryz.prog (w.alloc (fm 13)) = .ok () (w.alloc (fm 14)) := fmt_ins' w 13 14 _ _ rfl rfl rfl
theorem i14 (w : World) : (Instr.mapUpdate 79 (.map (some w.heap.size)) (.int .i64 15) (.agg #[.string { data := #[97, 99, 116, 117, 97, 108, 111, 119, 110] }, .int .i64 12, .int .i64 0, .int .i64 0])).run Tryz.prog (w.alloc (fm 14)) = .ok () (w.alloc (fm 15)) := fmt_ins' w 14 15 _ _ rfl rfl rfl
theorem i15 (w : World) : (Instr.mapUpdate 79 (.map (some w.heap.size)) (.int .i64 16) (.agg #[.string { data := #[110, 111, 116, 104, 105, 110, 103] }, .int .i64 0, .int .i64 0, .int .i64 0])).run Tryz.prog (w.alloc (fm 15)) = .ok () (w.alloc (fm 16)) := fmt_ins' w 15 16 _ _ rfl rfl rfl
theorem i16 (w : World) : (Instr.mapUpdate 79 (.map (some w.heap.size)) (.int .i64 17) (.agg #[.string { data := #[116, 104, 117, 110, 107] }, .int .i64 13, .int .i64 0, .int .i64 0])).run Tryz.prog (w.alloc (fm 16)) = .ok () (w.alloc (fm 17)) := fmt_ins' w 16 17 _ _ rfl rfl rfl
theorem i17 (w : World) : (Instr.mapUpdate 79 (.map (some w.heap.size)) (.int .i64 18) (.agg #[.string { data := #[112, 114, 111, 99] }, .int .i64 14, .int .i64 5, .int .i64 0])).run Tryz.prog (w.alloc (fm 17)) = .ok () (w.alloc (fm 18)) := fmt_ins' w 17 18 _ _ rfl rfl rfl
theorem i18 (w : World) : (Instr.mapUpdate 79 (.map (some w.heap.size)) (.int .i64 19) (.agg #[.string { data := #[115, 101, 108, 102] }, .int .i64 15, .int .i64 5, .int .i64 0])).run Tryz.prog (w.alloc (fm 18)) = .ok () (w.alloc (fm 19)) := fmt_ins' w 18 19 _ _ rfl rfl rfl
theorem i19 (w : World) : (Instr.mapUpdate 79 (.map (some w.heap.size)) (.int .i64 20) (.agg #[.string { data := #[108, 97, 98, 101, 108] }, .int .i64 16, .int .i64 5, .int .i64 0])).run Tryz.prog (w.alloc (fm 19)) = .ok () (w.alloc (fm 20)) := fmt_ins' w 19 20 _ _ rfl rfl rfl
theorem i20 (w : World) : (Instr.mapUpdate 79 (.map (some w.heap.size)) (.int .i64 21) (.agg #[.string { data := #[115, 119, 105, 116, 99, 104] }, .int .i64 17, .int .i64 5, .int .i64 0])).run Tryz.prog (w.alloc (fm 20)) = .ok () (w.alloc (fm 21)) := fmt_ins' w 20 21 _ _ rfl rfl rfl
theorem i21 (w : World) : (Instr.mapUpdate 79 (.map (some w.heap.size)) (.int .i64 22) (.agg #[.string { data := #[99, 97, 108, 108] }, .int .i64 18, .int .i64 0, .int .i64 0])).run Tryz.prog (w.alloc (fm 21)) = .ok () (w.alloc (fm 22)) := fmt_ins' w 21 22 _ _ rfl rfl rfl
theorem i22 (w : World) : (Instr.mapUpdate 79 (.map (some w.heap.size)) (.int .i64 23) (.agg #[.string { data := #[102, 117, 110, 99] }, .int .i64 18, .int .i64 0, .int .i64 0])).run Tryz.prog (w.alloc (fm 22)) = .ok () (w.alloc (fm 23)) := fmt_ins' w 22 23 _ _ rfl rfl rfl
theorem i23 (w : World) : (Instr.mapUpdate 79 (.map (some w.heap.size)) (.int .i64 24) (.agg #[.string { data := #[114, 101, 116, 117, 114, 110] }, .int .i64 7, .int .i64 0, .int .i64 0])).run Tryz.prog (w.alloc (fm 23)) = .ok () (w.alloc (fm 24)) := fmt_ins' w 23 24 _ _ rfl rfl rfl
theorem i24 (w : World) : (Instr.mapUpdate 79 (.map (some w.heap.size)) (.int .i64 25) (.agg #[.string { data := #[114, 101, 115, 117, 108, 116] }, .int .i64 0, .int .i64 0, .int .i64 0])).run Tryz.prog (w.alloc (fm 24)) = .ok () (w.alloc (fm 25)) := fmt_ins' w 24 25 _ _ rfl rfl rfl
theorem i25 (w : World) : (Instr.mapUpdate 79 (.map (some w.heap.size)) (.int .i64 26) (.agg #[.string { data := #[101, 110, 116, 101, 114] }, .int .i64 8, .int .i64 0, .int .i64 0])).run Tryz.prog (w.alloc (fm 25)) = .ok () (w.alloc (fm 26)) := fmt_ins' w 25 26 _ _ rfl rfl rfl
theorem i26 (w : World) : (Instr.mapUpdate 79 (.map (some w.heap.size)) (.int .i64 27) (.agg #[.string { data := #[108, 101, 97, 118, 101] }, .int .i64 0, .int .i64 0, .int .i64 0])).run Tryz.prog (w.alloc (fm 26)) = .ok () (w.alloc (fm 27)) := fmt_ins' w 26 27 _ _ rfl rfl rfl
theorem i27 (w : World) : (Instr.mapUpdate 79 (.map (some w.heap.size)) (.int .i64 28) (.agg #[.string { data := #[109, 97, 114, 107] }, .int .i64 0, .int .i64 0, .int .i64 0])).run Tryz.prog (w.alloc (fm 27)) = .ok () (w.alloc (fm 28)) := fmt_ins' w 27 28 _ _ rfl rfl rfl
theorem i28 (w : World) : (Instr.mapUpdate 79 (.map (some w.heap.size)) (.int .i64 29) (.agg #[.string { data := #[122, 101, 114, 111] }, .int .i64 6, .int .i64 9, .int .i64 0])).run Tryz.prog (w.alloc (fm 28)) = .ok () (w.alloc (fm 29)) := fmt_ins' w 28 29 _ _ rfl rfl rfl
theorem i29 (w : World) : (Instr.mapUpdate 79 (.map (some w.heap.size)) (.int .i64 30) (.agg #[.string { data := #[107, 101, 101, 112] }, .int .i64 6, .int .i64 0, .int .i64 0])).run Tryz.prog (w.alloc (fm 29)) = .ok () (w.alloc (fm 30)) := fmt_ins' w 29 30 _ _ rfl rfl rfl
theorem i30 (w : World) : (Instr.mapUpdate 79 (.map (some w.heap.size)) (.int .i64 31) (.agg #[.string { data := #[97, 114, 114, 97, 121] }, .int .i64 6, .int .i64 19, .int .i64 9])).run Tryz.prog (w.alloc (fm 30)) = .ok () (w.alloc (fm 31)) := fmt_ins' w 30 31 _ _ rfl rfl rfl
theorem i31 (w : World) : (Instr.mapUpdate 79 (.map (some w.heap.size)) (.int .i64 32) (.agg #[.string { data := #[108, 105, 107, 101] }, .int .i64 6, .int .i64 6, .int .i64 0])).run Tryz.prog (w.alloc (fm 31)) = .ok () (w.alloc (fm 32)) := fmt_ins' w 31 32 _ _ rfl rfl rfl
theorem i32 (w : World) : (Instr.mapUpdate 79 (.map (some w.heap.size)) (.int .i64 33) (.agg #[.string { data := #[99, 111, 112, 121] }, .int .i64 6, .int .i64 9, .int .i64 0])).run Tryz.prog (w.alloc (fm 32)) = .ok () (w.alloc (fm 33)) := fmt_ins' w 32 33 _ _ rfl rfl rfl
theorem i33 (w : World) : (Instr.mapUpdate 79 (.map (some w.heap.size)) (.int .i64 34) (.agg #[.string { data := #[97, 114, 114, 97, 121, 111, 119, 110] }, .int .i64 12, .int .i64 19, .int .i64 9])).run Tryz.prog (w.alloc (fm 33)) = .ok () (w.alloc (fm 34)) := fmt_ins' w 33 34 _ _ rfl rfl rfl
theorem i34 (w : World) : (Instr.mapUpdate 79 (.map (some w.heap.size)) (.int .i64 35) (.agg #[.string { data := #[108, 105, 107, 101, 111, 119, 110] }, .int .i64 12, .int .i64 12, .int .i64 0])).run Tryz.prog (w.alloc (fm 34)) = .ok () (w.alloc (fm 35)) := fmt_ins' w 34 35 _ _ rfl rfl rfl
theorem i35 (w : World) : (Instr.mapUpdate 79 (.map (some w.heap.size)) (.int .i64 36) (.agg #[.string { data := #[110, 101, 101, 100, 97, 114, 114, 97, 121] }, .int .i64 19, .int .i64 0, .int .i64 0])).run Tryz.prog (w.alloc (fm 35)) = .ok () (w.alloc (fm 36)) := fmt_ins' w 35 36 _ _ rfl rfl rfl
theorem i36 (w : World) : (Instr.mapUpdate 79 (.map (some w.heap.size)) (.int .i64 37) (.agg #[.string { data := #[110, 101, 101, 100, 115, 119, 105, 116, 99, 104] }, .int .i64 0, .int .i64 0, .int .i64 0])).run Tryz.prog (w.alloc (fm 36)) = .ok () (w.alloc (fm 37)) := fmt_ins' w 36 37 _ _ rfl rfl rfl
theorem i37 (w : World) : (Instr.mapUpdate 79 (.map (some w.heap.size)) (.int .i64 38) (.agg #[.string { data := #[115, 117, 98, 115] }, .int .i64 0, .int .i64 0, .int .i64 0])).run Tryz.prog (w.alloc (fm 37)) = .ok () (w.alloc (fm 38)) := fmt_ins' w 37 38 _ _ rfl rfl rfl
theorem i38 (w : World) : (Instr.mapUpdate 79 (.map (some w.heap.size)) (.int .i64 39) (.agg #[.string { data := #[105, 110, 100, 101, 120] }, .int .i64 19, .int .i64 0, .int .i64 0])).run Tryz.prog (w.alloc (fm 38)) = .ok () (w.alloc (fm 39)) := fmt_ins' w 38 39 _ _ rfl rfl rfl
theorem i39 (w : World) : (Instr.mapUpdate 79 (.map (some w.heap.size)) (.int .i64 40) (.agg #[.string { data := #[102, 101, 116, 99, 104] }, .int .i64 0, .int .i64 0, .int .i64 0])).run Tryz.prog (w.alloc (fm 39)) = .ok () (w.alloc (fm 40)) := fmt_ins' w 39 40 _ _ rfl rfl rfl
theorem i40 (w : World) : (Instr.mapUpdate 79 (.map (some w.heap.size)) (.int .i64 41) (.agg #[.string { data := #[115, 116, 111, 114, 101] }, .int .i64 20, .int .i64 0, .int .i64 0])).run Tryz.prog (w.alloc (fm 40)) = .ok () (w.alloc (fm 41)) := fmt_ins' w 40 41 _ _ rfl rfl rfl
theorem i41 (w : World) : (Instr.mapUpdate 79 (.map (some w.heap.size)) (.int .i64 42) (.agg #[.string { data := #[99, 111, 110, 118, 101, 114, 116] }, .int .i64 9, .int .i64 0, .int .i64 0])).run Tryz.prog (w.alloc (fm 41)) = .ok () (w.alloc (fm 42)) := fmt_ins' w 41 42 _ _ rfl rfl rfl
theorem i42 (w : World) : (Instr.mapUpdate 79 (.map (some w.heap.size)) (.int .i64 43) (.agg #[.string { data := #[111, 110, 101] }, .int .i64 21, .int .i64 0, .int .i64 0])).run Tryz.prog (w.alloc (fm 42)) = .ok () (w.alloc (fm 43)) := fmt_ins' w 42 43 _ _ rfl rfl rfl
theorem i43 (w : World) : (Instr.mapUpdate 79 (.map (some w.heap.size)) (.int .i64 44) (.agg #[.string { data := #[116, 119, 111] }, .int .i64 22, .int .i64 0, .int .i64 0])).run Tryz.prog (w.alloc (fm 43)) = .ok () (w.alloc (fm 44)) := fmt_ins' w 43 44 _ _ rfl rfl rfl
theorem i44 (w : World) : (Instr.mapUpdate 79 (.map (some w.heap.size)) (.int .i64 45) (.agg #[.string { data := #[119, 105, 116, 104, 105, 110] }, .int .i64 0, .int .i64 0, .int .i64 0])).run Tryz.prog (w.alloc (fm 44)) = .ok () (w.alloc (fm 45)) := fmt_ins' w 44 45 _ _ rfl rfl rfl
theorem i45 (w : World) : (Instr.mapUpdate 79 (.map (some w.heap.size)) (.int .i64 46) (.agg #[.string { data := #[102, 110] }, .int .i64 23, .int .i64 0, .int .i64 0])).run Tryz.prog (w.alloc (fm 45)) = .ok () (w.alloc (fm 46)) := fmt_ins' w 45 46 _ _ rfl rfl rfl
theorem i46 (w : World) : (Instr.mapUpdate 79 (.map (some w.heap.size)) (.int .i64 47) (.agg #[.string { data := #[106, 117, 109, 112] }, .int .i64 16, .int .i64 0, .int .i64 0])).run Tryz.prog (w.alloc (fm 46)) = .ok () (w.alloc (fm 47)) := fmt_ins' w 46 47 _ _ rfl rfl rfl
theorem i47 (w : World) : (Instr.mapUpdate 79 (.map (some w.heap.size)) (.int .i64 48) (.agg #[.string { data := #[106, 117, 109, 112, 102, 97, 108, 115, 101] }, .int .i64 16, .int .i64 0, .int .i64 0])).run Tryz.prog (w.alloc (fm 47)) = .ok () (w.alloc (fm 48)) := fmt_ins' w 47 48 _ _ rfl rfl rfl
theorem i48 (w : World) : (Instr.mapUpdate 79 (.map (some w.heap.size)) (.int .i64 49) (.agg #[.string { data := #[103, 111, 116, 111] }, .int .i64 0, .int .i64 0, .int .i64 0])).run Tryz.prog (w.alloc (fm 48)) = .ok () (w.alloc (fm 49)) := fmt_ins' w 48 49 _ _ rfl rfl rfl
theorem i49 (w : World) : (Instr.mapUpdate 79 (.map (some w.heap.size)) (.int .i64 50) (.agg #[.string { data := #[101, 108, 101, 109, 101, 110, 116] }, .int .i64 0, .int .i64 0, .int .i64 0])).run Tryz.prog (w.alloc (fm 49)) = .ok () (w.alloc (fm 50)) := fmt_ins' w 49 50 _ _ rfl rfl rfl
theorem i50 (w : World) : (Instr.mapUpdate 79 (.map (some w.heap.size)) (.int .i64 51) (.agg #[.string { data := #[111, 117, 116] }, .int .i64 10, .int .i64 0, .int .i64 0])).run Tryz.prog (w.alloc (fm 50)) = .ok () (w.alloc (fm 51)) := fmt_ins' w 50 51 _ _ rfl rfl rfl
theorem i51 (w : World) : (Instr.mapUpdate 79 (.map (some w.heap.size)) (.int .i64 52) (.agg #[.string { data := #[105, 110] }, .int .i64 0, .int .i64 0, .int .i64 0])).run Tryz.prog (w.alloc (fm 51)) = .ok () (w.alloc (fm 52)) := fmt_ins' w 51 52 _ _ rfl rfl rfl
theorem i52 (w : World) : (Instr.mapUpdate 79 (.map (some w.heap.size)) (.int .i64 53) (.agg #[.string { data := #[116, 114, 97, 112] }, .int .i64 24, .int .i64 0, .int .i64 0])).run Tryz.prog (w.alloc (fm 52)) = .ok () (w.alloc (fm 53)) := fmt_ins' w 52 53 _ _ rfl rfl rfl
attribute [local go_sem] i0 i1 i2 i3 i4 i5 i6 i7 i8 i9 i10 i11 i12 i13 i14 i15 i16 i17 i18 i19 i20 i21 i22 i23 i24 i25 i26 i27 i28 i29 i30 i31 i32 i33 i34 i35 i36 i37 i38 i39 i40 i41 i42 i43 i44 i45 i46 i47 i48 i49 i50 i51 i52
set_option maxHeartbeats 4000000 in
theorem formats_any (w : World) : Calls Tryz.prog 44 #[] w fun e w' => e = .returned (.map (some w.heap.size)) ∧ w.alloc (fm 53) = w' := by
  have hmm : ∀ w : World, (Instr.makeMap 79 none).run Tryz.prog w = .ok (.map (some w.heap.size)) (w.alloc (fm 0)) := fun w => rfl
  go_enter Tryz.func44, Tryz.ntmps44
  go_wp2
  go_ret
  exact ⟨rfl, rfl⟩
end FmtIns
end Go.Proofs.YtmfnholhhakgaaaGreatDoor
end
section
namespace Go.Proofs.YtmfnholhhakgaaaGreatDoor
open Go Go.Proofs Go.RowKit
set_option maxRecDepth 100000
def kStrs : List (List UInt8) := [[], [110], [114], [98], [115], [], [104, 107], [104, 107, 121], [104, 107], [104, 107], [104, 107], [104, 107], [111], [111], [97], [], [116], [112, 104], [102, 104], [108, 104], [119, 104], [99], [99], [75], [], [109], [], [], [107, 121], [107], [107, 100, 121], [107, 107], [107, 121], [97, 100, 121], [97, 97], [100], [], [], [100], [], [103], [121], [49], [50], [], [117], [108], [108], [], [], [120], [], [122]]
/-- The reference's kinds of the operands of an operation. -/
def kStr (n : Int) : ByteArray := ⟨((kStrs[n.toNat - 1]?).getD []).toArray⟩
theorem kinds_cell (w : World) (n : Int) (h1 : 1 ≤ n) (h2 : n ≤ 53) : (w.alloc (Obj.cells #[.string { data := #[] }, .string { data := #[110] }, .string { data := #[114] }, .string { data := #[98] }, .string { data := #[115] }, .string { data := #[] }, .string { data := #[104, 107] }, .string { data := #[104, 107, 121] }, .string { data := #[104, 107] }, .string { data := #[104, 107] }, .string { data := #[104, 107] }, .string { data := #[104, 107] }, .string { data := #[111] }, .string { data := #[111] }, .string { data := #[97] }, .string { data := #[] }, .string { data := #[116] }, .string { data := #[112, 104] }, .string { data := #[102, 104] }, .string { data := #[108, 104] }, .string { data := #[119, 104] }, .string { data := #[99] }, .string { data := #[99] }, .string { data := #[75] }, .string { data := #[] }, .string { data := #[109] }, .string { data := #[] }, .string { data := #[] }, .string { data := #[107, 121] }, .string { data := #[107] }, .string { data := #[107, 100, 121] }, .string { data := #[107, 107] }, .string { data := #[107, 121] }, .string { data := #[97, 100, 121] }, .string { data := #[97, 97] }, .string { data := #[100] }, .string { data := #[] }, .string { data := #[] }, .string { data := #[100] }, .string { data := #[] }, .string { data := #[103] }, .string { data := #[121] }, .string { data := #[49] }, .string { data := #[50] }, .string { data := #[] }, .string { data := #[117] }, .string { data := #[108] }, .string { data := #[108] }, .string { data := #[] }, .string { data := #[] }, .string { data := #[120] }, .string { data := #[] }, .string { data := #[122] }] 9)).cell? { block := w.heap.size, off := n.toNat - 1 } = some (.string (kStr n)) := by
  obtain ⟨k, hk, rfl⟩ : ∃ k : Nat, k < 53 ∧ n = (k + 1 : Nat) := ⟨(n - 1).toNat, by omega, by omega⟩
  rw [cell_of_row _ w.heap.size _ _ 9 (0, 0) (heap_alloc_new w _)]
  simp only [Int.toNat_natCast, Nat.add_sub_cancel, kStr]
  have : ∀ k : Fin 53, (#[.string { data := #[] }, .string { data := #[110] }, .string { data := #[114] }, .string { data := #[98] }, .string { data := #[115] }, .string { data := #[] }, .string { data := #[104, 107] }, .string { data := #[104, 107, 121] }, .string { data := #[104, 107] }, .string { data := #[104, 107] }, .string { data := #[104, 107] }, .string { data := #[104, 107] }, .string { data := #[111] }, .string { data := #[111] }, .string { data := #[97] }, .string { data := #[] }, .string { data := #[116] }, .string { data := #[112, 104] }, .string { data := #[102, 104] }, .string { data := #[108, 104] }, .string { data := #[119, 104] }, .string { data := #[99] }, .string { data := #[99] }, .string { data := #[75] }, .string { data := #[] }, .string { data := #[109] }, .string { data := #[] }, .string { data := #[] }, .string { data := #[107, 121] }, .string { data := #[107] }, .string { data := #[107, 100, 121] }, .string { data := #[107, 107] }, .string { data := #[107, 121] }, .string { data := #[97, 100, 121] }, .string { data := #[97, 97] }, .string { data := #[100] }, .string { data := #[] }, .string { data := #[] }, .string { data := #[100] }, .string { data := #[] }, .string { data := #[103] }, .string { data := #[121] }, .string { data := #[49] }, .string { data := #[50] }, .string { data := #[] }, .string { data := #[117] }, .string { data := #[108] }, .string { data := #[108] }, .string { data := #[] }, .string { data := #[] }, .string { data := #[120] }, .string { data := #[] }, .string { data := #[122] }] : Array Value)[k.1]? = some (.string ⟨((kStrs[k.1]?).getD []).toArray⟩) := fun k => by
    match k with
    | ⟨0, _⟩ => rfl
    | ⟨1, _⟩ => rfl
    | ⟨2, _⟩ => rfl
    | ⟨3, _⟩ => rfl
    | ⟨4, _⟩ => rfl
    | ⟨5, _⟩ => rfl
    | ⟨6, _⟩ => rfl
    | ⟨7, _⟩ => rfl
    | ⟨8, _⟩ => rfl
    | ⟨9, _⟩ => rfl
    | ⟨10, _⟩ => rfl
    | ⟨11, _⟩ => rfl
    | ⟨12, _⟩ => rfl
    | ⟨13, _⟩ => rfl
    | ⟨14, _⟩ => rfl
    | ⟨15, _⟩ => rfl
    | ⟨16, _⟩ => rfl
    | ⟨17, _⟩ => rfl
    | ⟨18, _⟩ => rfl
    | ⟨19, _⟩ => rfl
    | ⟨20, _⟩ => rfl
    | ⟨21, _⟩ => rfl
    | ⟨22, _⟩ => rfl
    | ⟨23, _⟩ => rfl
    | ⟨24, _⟩ => rfl
    | ⟨25, _⟩ => rfl
    | ⟨26, _⟩ => rfl
    | ⟨27, _⟩ => rfl
    | ⟨28, _⟩ => rfl
    | ⟨29, _⟩ => rfl
    | ⟨30, _⟩ => rfl
    | ⟨31, _⟩ => rfl
    | ⟨32, _⟩ => rfl
    | ⟨33, _⟩ => rfl
    | ⟨34, _⟩ => rfl
    | ⟨35, _⟩ => rfl
    | ⟨36, _⟩ => rfl
    | ⟨37, _⟩ => rfl
    | ⟨38, _⟩ => rfl
    | ⟨39, _⟩ => rfl
    | ⟨40, _⟩ => rfl
    | ⟨41, _⟩ => rfl
    | ⟨42, _⟩ => rfl
    | ⟨43, _⟩ => rfl
    | ⟨44, _⟩ => rfl
    | ⟨45, _⟩ => rfl
    | ⟨46, _⟩ => rfl
    | ⟨47, _⟩ => rfl
    | ⟨48, _⟩ => rfl
    | ⟨49, _⟩ => rfl
    | ⟨50, _⟩ => rfl
    | ⟨51, _⟩ => rfl
    | ⟨52, _⟩ => rfl
    | ⟨k + 53, h⟩ => omega
  exact this ⟨k, hk⟩

set_option maxHeartbeats 1000000 in
theorem kinds_any (n : Int) (h1 : 1 ≤ n) (h2 : n ≤ 53) (w : World) : Calls Tryz.prog 77 #[.int .i64 n] w fun e w' => e = .returned (.string (kStr n)) ∧ Below w.heap.size w w' := by
  have hb : ∀ o, Below w.heap.size w (w.alloc o) := fun o => (Below.refl w.heap.size w).alloc (Nat.le_refl _) o
  have hc := kinds_cell w n h1 h2
  go_enter Tryz.func77, Tryz.ntmps77
  go_wp2
  go_ret
  exact ⟨rfl, hb _⟩
set_option maxHeartbeats 1000000 in
theorem refOperands_any (n : Int) (h1 : 1 ≤ n) (h2 : n ≤ 53) (w : World) : Calls Tryz.prog 29 #[.int .i64 n] w fun e w' => e = .returned (.int .i64 (kStr n).size) ∧ Below w.heap.size w w' := by
  go_enter Tryz.func29, Tryz.ntmps29
  go_wp2_with (go_at_call 77; refine (kinds_any _ h1 h2 _).mono ?_; rintro e w' ⟨rfl, hb⟩)
  go_ret
  exact ⟨rfl, hb⟩
def namesObj : Obj := .cells #[.string { data := #[104, 97, 108, 116] }, .string { data := #[105, 110, 116] }, .string { data := #[114, 101, 97, 108] }, .string { data := #[98, 111, 111, 108] }, .string { data := #[115, 116, 114, 105, 110, 103] }, .string { data := #[112, 111, 112] }, .string { data := #[108, 111, 97, 100] }, .string { data := #[114, 101, 102] }, .string { data := #[97, 99, 116, 117, 97, 108] }, .string { data := #[118, 97, 108, 117, 101] }, .string { data := #[97, 100, 100, 114, 101, 115, 115] }, .string { data := #[100, 101, 115, 105, 103] }, .string { data := #[108, 111, 97, 100, 111, 119, 110] }, .string { data := #[114, 101, 102, 111, 119, 110] }, .string { data := #[97, 99, 116, 117, 97, 108, 111, 119, 110] }, .string { data := #[110, 111, 116, 104, 105, 110, 103] }, .string { data := #[116, 104, 117, 110, 107] }, .string { data := #[112, 114, 111, 99] }, .string { data := #[115, 101, 108, 102] }, .string { data := #[108, 97, 98, 101, 108] }, .string { data := #[115, 119, 105, 116, 99, 104] }, .string { data := #[99, 97, 108, 108] }, .string { data := #[102, 117, 110, 99] }, .string { data := #[114, 101, 116, 117, 114, 110] }, .string { data := #[114, 101, 115, 117, 108, 116] }, .string { data := #[101, 110, 116, 101, 114] }, .string { data := #[108, 101, 97, 118, 101] }, .string { data := #[109, 97, 114, 107] }, .string { data := #[122, 101, 114, 111] }, .string { data := #[107, 101, 101, 112] }, .string { data := #[97, 114, 114, 97, 121] }, .string { data := #[108, 105, 107, 101] }, .string { data := #[99, 111, 112, 121] }, .string { data := #[97, 114, 114, 97, 121, 111, 119, 110] }, .string { data := #[108, 105, 107, 101, 111, 119, 110] }, .string { data := #[110, 101, 101, 100, 97, 114, 114, 97, 121] }, .string { data := #[110, 101, 101, 100, 115, 119, 105, 116, 99, 104] }, .string { data := #[115, 117, 98, 115] }, .string { data := #[105, 110, 100, 101, 120] }, .string { data := #[102, 101, 116, 99, 104] }, .string { data := #[115, 116, 111, 114, 101] }, .string { data := #[99, 111, 110, 118, 101, 114, 116] }, .string { data := #[111, 110, 101] }, .string { data := #[116, 119, 111] }, .string { data := #[119, 105, 116, 104, 105, 110] }, .string { data := #[102, 110] }, .string { data := #[106, 117, 109, 112] }, .string { data := #[106, 117, 109, 112, 102, 97, 108, 115, 101] }, .string { data := #[103, 111, 116, 111] }, .string { data := #[101, 108, 101, 109, 101, 110, 116] }, .string { data := #[111, 117, 116] }, .string { data := #[105, 110] }, .string { data := #[116, 114, 97, 112] }] 9
theorem namesObj_eq : namesObj = .cells (fmtTab.map fun x => Value.string ⟨x.1.toArray⟩).toArray 9 := rfl
set_option maxHeartbeats 1000000 in
theorem names_any (w : World) : Calls Tryz.prog 28 #[] w fun e w' => e = .returned (.slice (some ⟨w.heap.size, 0, none⟩) 53 53) ∧ w.alloc namesObj = w' := by
  go_enter Tryz.func28, Tryz.ntmps28
  go_wp2
  go_ret
  exact ⟨rfl, rfl⟩
theorem fmtTab_length : fmtTab.length = 53 := rfl
theorem opName_nat (k : Nat) : opName (k + 1 : Nat) = ⟨(((fmtTab[k]?).map (·.1)).getD []).toArray⟩ := by
  unfold opName opAt
  rw [if_pos (by omega)]
  have : ((k + 1 : Nat) - 1 : Int).toNat = k := by omega
  rw [this]
theorem names_cell (w : World) (k : Nat) (hk : k < 53) : (w.alloc namesObj).cell? ⟨w.heap.size, k, none⟩ = some (.string (opName (k + 1 : Nat))) := by
  rw [namesObj_eq, cell_of_row _ w.heap.size _ _ 9 (0, 0) (heap_alloc_new w _)]
  have : fmtTab[k]? = some (fmtTab[k]'(by rw [fmtTab_length]; exact hk)) := List.getElem?_eq_getElem _
  rw [opName_nat, this]
  simp [this]

end Go.Proofs.YtmfnholhhakgaaaGreatDoor
end
