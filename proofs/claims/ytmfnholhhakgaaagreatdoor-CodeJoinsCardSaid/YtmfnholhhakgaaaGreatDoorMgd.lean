/- The example, its text read back, and sanity. -/
import Derived.Test.YtmfnholhhakgaaaGreatDoorPaq
import Derived.Test.YtmfnholhhakgaaaGreatDoorMho
import Derived.Test.YtmfnholhhakgaaaGreatDoorMhg
import Derived.Test.YtmfnholhhakgaaaGreatDoorMhh
import Derived.Test.YtmfnholhhakgaaaGreatDoorMhi
import Derived.Test.YtmfnholhhakgaaaGreatDoorJnc
section
namespace Go.Proofs.YtmfnholhhakgaaaGreatDoor
open Go Go.Proofs Go.RowKit Go.Sort
set_option maxRecDepth 100000
def exC : CodeD := ⟨[⟨18, 0, 0, 0⟩, ⟨2, 5, 0, 0⟩, ⟨23, 1, 0, 0⟩, ⟨10, 0, 0, 0⟩, ⟨42, 1, 0, 0⟩, ⟨30, 1, 0, 0⟩, ⟨24, 1, 0, 0⟩], [⟨3, 1, 1, 2, false⟩], [], [], [], [], []⟩
theorem Reads.block {w : World} {b size n : Nat} {xs : List Value} {t : TypeId} (h : w.heap[b]? = some (.cells xs.toArray t (0, 0))) (hl : xs.length = n * size) : Reads w w.heap.size size (some ⟨b, 0, none⟩) n xs := by
  refine ⟨hl, fun _ => ⟨_, rfl, (Array.getElem?_eq_some_iff.1 h).1, fun j u hj => ?_⟩⟩
  have := cell_of_row w b j _ t (0, 0) h
  rw [show Addr.add ⟨b, 0, none⟩ j = ⟨b, j, none⟩ from by unfold Addr.add; split <;> simp_all]
  rw [this]
  simpa using hj
theorem Reads.none0 {w : World} {B size : Nat} : Reads w B size none 0 [] := ⟨by simp, fun h => absurd h (Nat.lt_irrefl _)⟩
theorem exc_at {w : World} {p q : Nat} (hp : w.heap[p]? = some (.cells (exC.instrs.flatMap InstrD.cells).toArray 52 (0, 0))) (hq : w.heap[q]? = some (.cells (exC.procs.flatMap ProcD.cells).toArray 78 (0, 0))) :
    CodeAt w w.heap.size ⟨⟨some ⟨p, 0, none⟩, 7, 7⟩, ⟨some ⟨q, 0, none⟩, 1, 1⟩, ⟨none, 0, 0⟩, ⟨none, 0, 0⟩, ⟨none, 0, 0⟩, ⟨none, 0, 0⟩, ⟨none, 0, 0⟩⟩ exC :=
  have z : Small 0 := by unfold Small; omega
  { i := Reads.block hp rfl, p := Reads.block hq rfl, t := Reads.none0, s := ⟨[], Reads.none0, rfl, fun k x l hx => (by simp at hx)⟩, g := Reads.none0, r := Reads.none0, o := Reads.none0, ni := ⟨rfl, by unfold Small; show _ ≤ 140737488351232; simp⟩, np := ⟨rfl, by unfold Small; show _ ≤ 140737488351232; simp⟩, nt := ⟨rfl, z⟩, ns := ⟨rfl, z⟩, ng := ⟨rfl, z⟩, nr := ⟨rfl, z⟩, no := ⟨rfl, z⟩, zs := fun s h => (by cases h), wr := fun x h => (by cases h) }
theorem example_ok (w : World) : Calls Tryz.prog 41 #[] w fun e w' => ∃ h : CodeH, e = .returned h.v ∧ CodeAt w' w'.heap.size h exC ∧ Below w.heap.size w w' := by
  go_enter Tryz.func41, Tryz.ntmps41
  go_wp2
  have hb : ∀ (v : World) (o : Obj) (k : Nat) (x : Obj), v.heap[k]? = some x → (v.alloc o).heap[k]? = some x := fun v o k x h => (Below.heap_alloc _ _ _ (Array.getElem?_eq_some_iff.1 h).1).trans h
  generalize hW : ((w.alloc _).alloc _).alloc _ = W
  have h0 : W.heap[w.heap.size]? = some _ := hW ▸ hb _ _ _ _ (hb _ _ _ _ (heap_alloc_new w _))
  have h1 : W.heap[w.heap.size + 1]? = some _ := hW ▸ hb _ _ _ _ (by have := heap_alloc_new (w.alloc (.cells #[.slice (some ⟨w.heap.size + 1 + 1, 0, none⟩) 7 7, .slice (some ⟨w.heap.size + 1, 0, none⟩) 1 1, .slice none 0 0, .slice none 0 0, .slice none 0 0, .slice none 0 0, .slice none 0 0] 30)) (.cells (exC.procs.flatMap ProcD.cells).toArray 78); rwa [World.size_alloc] at this)
  have h2 : W.heap[w.heap.size + 1 + 1]? = some (.cells (exC.instrs.flatMap InstrD.cells).toArray 52 (0, 0)) := hW ▸ (by have := heap_alloc_new ((w.alloc (.cells #[.slice (some ⟨w.heap.size + 1 + 1, 0, none⟩) 7 7, .slice (some ⟨w.heap.size + 1, 0, none⟩) 1 1, .slice none 0 0, .slice none 0 0, .slice none 0 0, .slice none 0 0, .slice none 0 0] 30)).alloc (.cells (exC.procs.flatMap ProcD.cells).toArray 78)) (.cells (exC.instrs.flatMap InstrD.cells).toArray 52); rwa [World.size_alloc, World.size_alloc] at this)
  have hbw : Below w.heap.size w W := hW ▸ (((Below.refl _ w).alloc (Nat.le_refl _) _).alloc (by simp) _).alloc (by simp; omega) _
  have q0 := cell_of_row W w.heap.size 0 _ _ _ h0
  have q1 := cell_of_row W w.heap.size 1 _ _ _ h0
  have q2 := cell_of_row W w.heap.size 2 _ _ _ h0
  have q3 := cell_of_row W w.heap.size 3 _ _ _ h0
  have q4 := cell_of_row W w.heap.size 4 _ _ _ h0
  have q5 := cell_of_row W w.heap.size 5 _ _ _ h0
  have q6 := cell_of_row W w.heap.size 6 _ _ _ h0
  clear hW
  refine ⟨rfl, _, by simp [results, Tryz.results41, go_sem, Tryz.sizeOf30, q0, q1, q2, q3, q4, q5, q6]; rfl, ⟨⟨some ⟨w.heap.size + 1 + 1, 0, none⟩, 7, 7⟩, ⟨some ⟨w.heap.size + 1, 0, none⟩, 1, 1⟩, ⟨none, 0, 0⟩, ⟨none, 0, 0⟩, ⟨none, 0, 0⟩, ⟨none, 0, 0⟩, ⟨none, 0, 0⟩⟩, rfl, exc_at h2 h1, hbw⟩
end Go.Proofs.YtmfnholhhakgaaaGreatDoor
end
section
namespace Go.Proofs.YtmfnholhhakgaaaGreatDoor
open Go Go.Proofs Go.RowKit Go.Sort
set_option maxRecDepth 100000
def exRows : List ByteArray := [⟨#[80, 82, 79, 67, 32, 51, 32, 49, 32, 49, 32, 50, 10]⟩, ⟨#[112, 114, 111, 99, 32, 48, 32, 48, 10]⟩,
  ⟨#[105, 110, 116, 32, 53, 10]⟩, ⟨#[102, 117, 110, 99, 32, 49, 10]⟩, ⟨#[118, 97, 108, 117, 101, 32, 48, 32, 48, 10]⟩,
  ⟨#[99, 111, 110, 118, 101, 114, 116, 32, 49, 10]⟩, ⟨#[107, 101, 101, 112, 32, 49, 10]⟩, ⟨#[114, 101, 116, 117, 114, 110, 32, 49, 10]⟩]
def exT : ByteArray := ⟨(exRows.flatMap (·.data.toList)).toArray⟩
theorem exT_print (rp : RealD → ByteArray) : printS rp exC = exT := by kernel_rfl
theorem exT_rows : rowsOf exT = exRows := by kernel_rfl
/-- The reading of the example's lines. -/
def exR (st : CodeD × Int) (t : ByteArray) : Option (CodeD × Int) := match wordsOf t with
  | [] => none
  | hd :: rest => match numsD rest with
    | none => none
    | some L => if hd.data == #[80, 82, 79, 67] then some ({ st.1 with procs := st.1.procs ++ [⟨L.getD 0 0, L.getD 1 0, L.getD 2 0, L.getD 3 0, false⟩] }, 0)
      else some ({ st.1 with instrs := st.1.instrs ++ [insOf (opNum hd) L] }, 6)
theorem exR_rows : readRows exR exRows 0 (codeZ, 0) = .inl (exC, 6) := by kernel_rfl
theorem exC_large : largeC exC = false := by kernel_rfl
theorem exC_err : chkErr exC (largeC exC) = 0 := by kernel_rfl
structure InsRow (row hd : ByteArray) (rest : List ByteArray) (L : List Int) : Prop where
  w : wordsOf (textOf row) = hd :: rest
  nt : NoTab hd
  o : opNum hd ≠ 0
  n : numsD rest = some L
  m : (rest.length : Int) = manyN (opK0 (opNum hd)) (opK1 (opNum hd)) (opK2 (opNum hd))
  z : (textOf row).size ≤ 100000 ∧ ∀ x ∈ rest, x.size ≤ 100000
  p : (hd.data == #[80, 82, 79, 67]) = false
theorem InsRow.reads {row hd : ByteArray} {rest : List ByteArray} {L : List Int} (h : InsRow row hd rest L) (st : CodeD × Int) : exR st (textOf row) = some ({ st.1 with instrs := st.1.instrs ++ [insOf (opNum hd) L] }, 6) := by
  unfold exR
  rw [h.w]
  simp only [h.n, h.p]
  rfl
theorem lines_ins : ∀ (rows : List ByteArray) (c : CodeD) (g : Int), g ≤ 6 → sizeP c + rows.length ≤ 1000000000 → (∀ row ∈ rows, ∃ hd rest L, InsRow row hd rest L) → LinesOk exR rows (c, g)
  | [], _, _, _, _, _ => trivial
  | row :: r, c, g, hg, hz, hall => by
    intro _
    obtain ⟨hd, rest, L, hr⟩ := hall row (by simp)
    rw [List.length_cons] at hz
    refine ⟨fun H Bp Mo Mf B W hP hv hB => ?_, fun st' hst => ?_⟩
    · rw [hr.reads]
      exact line_ins_ok H Bp Mo Mf B g c _ hd rest W hP hv hB hr.z.1 hr.z.2 hr.w hr.nt (by omega) hg hr.o L hr.n hr.m
    · rw [hr.reads] at hst
      cases hst
      refine lines_ins r _ 6 (Int.le_refl _) ?_ fun x hx => hall x (List.mem_cons_of_mem _ hx)
      unfold sizeP at hz ⊢
      simp only [List.length_append, List.length_cons, List.length_nil]
      omega
theorem exRow1 : InsRow ⟨#[112, 114, 111, 99, 32, 48, 32, 48, 10]⟩ ⟨#[112, 114, 111, 99]⟩ [⟨#[48]⟩, ⟨#[48]⟩] [0, 0] :=
  ⟨by kernel_rfl, ⟨by kernel_rfl, by kernel_rfl, by kernel_rfl, by kernel_rfl, by kernel_rfl, by kernel_rfl⟩, by rw [show opNum ⟨#[112, 114, 111, 99]⟩ = 18 from by kernel_rfl]; decide, by kernel_rfl, by kernel_rfl, ⟨by rw [show (textOf ⟨#[112, 114, 111, 99, 32, 48, 32, 48, 10]⟩).size = 8 from by kernel_rfl]; decide, by decide⟩, by kernel_rfl⟩
theorem exRow2 : InsRow ⟨#[105, 110, 116, 32, 53, 10]⟩ ⟨#[105, 110, 116]⟩ [⟨#[53]⟩] [5] :=
  ⟨by kernel_rfl, ⟨by kernel_rfl, by kernel_rfl, by kernel_rfl, by kernel_rfl, by kernel_rfl, by kernel_rfl⟩, by rw [show opNum ⟨#[105, 110, 116]⟩ = 2 from by kernel_rfl]; decide, by kernel_rfl, by kernel_rfl, ⟨by rw [show (textOf ⟨#[105, 110, 116, 32, 53, 10]⟩).size = 5 from by kernel_rfl]; decide, by decide⟩, by kernel_rfl⟩
theorem exRow3 : InsRow ⟨#[102, 117, 110, 99, 32, 49, 10]⟩ ⟨#[102, 117, 110, 99]⟩ [⟨#[49]⟩] [1] :=
  ⟨by kernel_rfl, ⟨by kernel_rfl, by kernel_rfl, by kernel_rfl, by kernel_rfl, by kernel_rfl, by kernel_rfl⟩, by rw [show opNum ⟨#[102, 117, 110, 99]⟩ = 23 from by kernel_rfl]; decide, by kernel_rfl, by kernel_rfl, ⟨by rw [show (textOf ⟨#[102, 117, 110, 99, 32, 49, 10]⟩).size = 6 from by kernel_rfl]; decide, by decide⟩, by kernel_rfl⟩
theorem exRow4 : InsRow ⟨#[118, 97, 108, 117, 101, 32, 48, 32, 48, 10]⟩ ⟨#[118, 97, 108, 117, 101]⟩ [⟨#[48]⟩, ⟨#[48]⟩] [0, 0] :=
  ⟨by kernel_rfl, ⟨by kernel_rfl, by kernel_rfl, by kernel_rfl, by kernel_rfl, by kernel_rfl, by kernel_rfl⟩, by rw [show opNum ⟨#[118, 97, 108, 117, 101]⟩ = 10 from by kernel_rfl]; decide, by kernel_rfl, by kernel_rfl, ⟨by rw [show (textOf ⟨#[118, 97, 108, 117, 101, 32, 48, 32, 48, 10]⟩).size = 9 from by kernel_rfl]; decide, by decide⟩, by kernel_rfl⟩
theorem exRow5 : InsRow ⟨#[99, 111, 110, 118, 101, 114, 116, 32, 49, 10]⟩ ⟨#[99, 111, 110, 118, 101, 114, 116]⟩ [⟨#[49]⟩] [1] :=
  ⟨by kernel_rfl, ⟨by kernel_rfl, by kernel_rfl, by kernel_rfl, by kernel_rfl, by kernel_rfl, by kernel_rfl⟩, by rw [show opNum ⟨#[99, 111, 110, 118, 101, 114, 116]⟩ = 42 from by kernel_rfl]; decide, by kernel_rfl, by kernel_rfl, ⟨by rw [show (textOf ⟨#[99, 111, 110, 118, 101, 114, 116, 32, 49, 10]⟩).size = 9 from by kernel_rfl]; decide, by decide⟩, by kernel_rfl⟩
theorem exRow6 : InsRow ⟨#[107, 101, 101, 112, 32, 49, 10]⟩ ⟨#[107, 101, 101, 112]⟩ [⟨#[49]⟩] [1] :=
  ⟨by kernel_rfl, ⟨by kernel_rfl, by kernel_rfl, by kernel_rfl, by kernel_rfl, by kernel_rfl, by kernel_rfl⟩, by rw [show opNum ⟨#[107, 101, 101, 112]⟩ = 30 from by kernel_rfl]; decide, by kernel_rfl, by kernel_rfl, ⟨by rw [show (textOf ⟨#[107, 101, 101, 112, 32, 49, 10]⟩).size = 6 from by kernel_rfl]; decide, by decide⟩, by kernel_rfl⟩
theorem exRow7 : InsRow ⟨#[114, 101, 116, 117, 114, 110, 32, 49, 10]⟩ ⟨#[114, 101, 116, 117, 114, 110]⟩ [⟨#[49]⟩] [1] :=
  ⟨by kernel_rfl, ⟨by kernel_rfl, by kernel_rfl, by kernel_rfl, by kernel_rfl, by kernel_rfl, by kernel_rfl⟩, by rw [show opNum ⟨#[114, 101, 116, 117, 114, 110]⟩ = 24 from by kernel_rfl]; decide, by kernel_rfl, by kernel_rfl, ⟨by rw [show (textOf ⟨#[114, 101, 116, 117, 114, 110, 32, 49, 10]⟩).size = 8 from by kernel_rfl]; decide, by decide⟩, by kernel_rfl⟩
theorem ex_lines : LinesOk exR exRows (codeZ, 0) := by
  intro _
  have hw : wordsOf (textOf ⟨#[80, 82, 79, 67, 32, 51, 32, 49, 32, 49, 32, 50, 10]⟩) = ⟨#[80, 82, 79, 67]⟩ :: [⟨#[51]⟩, ⟨#[49]⟩, ⟨#[49]⟩, ⟨#[50]⟩] := by kernel_rfl
  have hn : numsD [⟨#[51]⟩, ⟨#[49]⟩, ⟨#[49]⟩, ⟨#[50]⟩] = some [3, 1, 1, 2] := by kernel_rfl
  have hr : exR (codeZ, 0) (textOf ⟨#[80, 82, 79, 67, 32, 51, 32, 49, 32, 49, 32, 50, 10]⟩) = some ({ codeZ with procs := codeZ.procs ++ [⟨3, 1, 1, 2, false⟩] }, 0) := by kernel_rfl
  refine ⟨fun H Bp Mo Mf B W hP hv hB => ?_, fun st' hst => ?_⟩
  · rw [hr]
    refine line_proc_own H Bp Mo Mf B 0 codeZ _ _ W hP hv hB ?_ (by decide) hw (by decide) (Int.le_refl _) rfl 3 1 1 2 hn
    rw [show (textOf ⟨#[80, 82, 79, 67, 32, 51, 32, 49, 32, 49, 32, 50, 10]⟩).size = 12 from by kernel_rfl]
    decide
  · rw [hr] at hst
    cases hst
    refine lines_ins _ _ 0 (by decide) (by decide) fun x hx => ?_
    simp only [List.mem_cons, List.not_mem_nil, or_false] at hx
    rcases hx with rfl | rfl | rfl | rfl | rfl | rfl | rfl
    · exact ⟨_, _, _, exRow1⟩
    · exact ⟨_, _, _, exRow2⟩
    · exact ⟨_, _, _, exRow3⟩
    · exact ⟨_, _, _, exRow4⟩
    · exact ⟨_, _, _, exRow5⟩
    · exact ⟨_, _, _, exRow6⟩
    · exact ⟨_, _, _, exRow7⟩
theorem exC_sane : Sane exC := ⟨by decide, fun s h => (by cases h), fun l h => (by cases h), fun x h => (by cases h)⟩
/-- Parse takes the example's text. -/
theorem Parse_ex (w : World) (hv : Vars w.heap.size w) : Calls Tryz.prog 23 #[.string exT] w fun e w' => ∃ h : CodeH, e = .returned (.tuple #[h.v, .int .i64 0, .int .i64 (-1)]) ∧ CodeAt w' w'.heap.size h exC ∧ Below w.heap.size w w' := by
  refine (Parse_gen exR exT w ?_ hv ?_ ?_).mono ?_
  · rw [show exT.size = 71 from by kernel_rfl]
    decide
  · rw [exT_rows]
    exact ex_lines
  · intro st h
    rw [exT_rows, exR_rows] at h
    cases h
    exact exC_sane
  · intro e w' h
    rw [exT_rows, exR_rows] at h
    exact (if_pos exC_err).mp h
def haltT : ByteArray := ⟨#[104, 97, 108, 116]⟩
theorem Parse_halt (w : World) (hv : Vars w.heap.size w) : Calls Tryz.prog 23 #[.string haltT] w fun e w' => e = .returned (.tuple #[.agg #[.slice none 0 0, .slice none 0 0, .slice none 0 0, .slice none 0 0, .slice none 0 0, .slice none 0 0, .slice none 0 0], .int .i64 7, .int .i64 0]) ∧ Below w.heap.size w w' := by
  have hr : rowsOf haltT = [haltT] := by kernel_rfl
  have hi : isRow haltT = false := by kernel_rfl
  have hx : readRows exR [haltT] 0 (codeZ, 0) = .inr 0 := by kernel_rfl
  refine (Parse_gen exR haltT w (by decide) hv ?_ ?_).mono ?_
  · rw [hr]
    intro h
    rw [hi] at h
    cases h
  · intro st h
    rw [hr, hx] at h
    cases h
  · intro e w' h
    rw [hr, hx] at h
    exact h
end Go.Proofs.YtmfnholhhakgaaaGreatDoor
end
section
namespace Go.Proofs.YtmfnholhhakgaaaGreatDoor
open Go Go.Proofs Go.RowKit Go.Sort
set_option maxRecDepth 100000
theorem exC_fine : fineB exC false = true := by kernel_rfl
theorem exC_ent : entL exC = [0, 3] := by
  unfold entL
  rw [show entRaw exC = [0, 3] from by kernel_rfl]
  rw [show sortL [0, 3] = [0, 3] from by simp [sortL, List.mergeSort]]
  kernel_rfl
theorem own_len {w : World} {base : Nat} {e : TypeId} {size : Nat} {A : Option Addr} {m q n : Nat} {xs : List Value} (h : w.ownsRow base e size (.slice A m q) n xs) : m = n := by
  rcases h.2 with ⟨h1, h2⟩ | ⟨g, cap, cur, h1, _⟩
  · cases h1; exact h2.symm
  · cases h1; rfl
theorem exC_next6 : nextL ⟨24, 1, 0, 0⟩ 6 7 = [] := by kernel_rfl
theorem exC_next2 : nextL ⟨23, 1, 0, 0⟩ 2 7 = [3] := by kernel_rfl
theorem Entries_ex (h : CodeH) (w : World) (H : CodeAt w w.heap.size h exC) : Calls Tryz.prog 32 #[h.v] w fun e w' => ∃ A c, e = .returned (.tuple #[.slice A 2 c, .int .i64 0]) ∧ Reads w' w'.heap.size 1 A 2 (intCells [0, 3]) ∧ Below w.heap.size w w' := by
  have hl : largeB h = false := (large_at H).trans exC_large
  refine (Entries_ok h exC w H (by rw [hl]; exact exC_fine)).mono ?_
  rintro e w' ⟨v, rfl, ho, hb⟩
  obtain ⟨A, m, q, rfl⟩ := own_isSlice ho
  rw [exC_ent] at ho
  obtain rfl : m = 2 := own_len ho
  exact ⟨A, q, rfl, Reads.of_own ho, hb⟩
theorem Next_ex6 (h : CodeH) (w : World) (H : CodeAt w w.heap.size h exC) : Calls Tryz.prog 33 #[h.v, .int .i64 6] w fun e w' => ∃ A c, e = .returned (.tuple #[.slice A 0 c, .int .i64 0]) ∧ Below w.heap.size w w' := by
  have hl : largeB h = false := (large_at H).trans exC_large
  have hn : h.i.n = 7 := H.ni.1
  refine (Next_ok h exC w H 6 ⟨24, 1, 0, 0⟩ rfl (by omega) (by rw [hl]; exact exC_fine)).mono ?_
  rintro e w' ⟨v, rfl, ho, hb⟩
  obtain ⟨A, m, q, rfl⟩ := own_isSlice ho
  rw [hn, show nextL ⟨24, 1, 0, 0⟩ 6 7 = [] from exC_next6] at ho
  obtain rfl : m = 0 := own_len ho
  exact ⟨A, q, rfl, hb⟩
theorem Next_ex2 (h : CodeH) (w : World) (H : CodeAt w w.heap.size h exC) : Calls Tryz.prog 33 #[h.v, .int .i64 2] w fun e w' => ∃ A c, e = .returned (.tuple #[.slice A 1 c, .int .i64 0]) ∧ Reads w' w'.heap.size 1 A 1 (intCells [3]) ∧ Below w.heap.size w w' := by
  have hl : largeB h = false := (large_at H).trans exC_large
  have hn : h.i.n = 7 := H.ni.1
  refine (Next_ok h exC w H 2 ⟨23, 1, 0, 0⟩ rfl (by omega) (by rw [hl]; exact exC_fine)).mono ?_
  rintro e w' ⟨v, rfl, ho, hb⟩
  obtain ⟨A, m, q, rfl⟩ := own_isSlice ho
  rw [hn, show nextL ⟨23, 1, 0, 0⟩ 2 7 = [3] from exC_next2] at ho
  obtain rfl : m = 1 := own_len ho
  exact ⟨A, q, rfl, Reads.of_own ho, hb⟩
theorem Check_ex (h : CodeH) (w : World) (H : CodeAt w w.heap.size h exC) : Calls Tryz.prog 14 #[h.v] w fun e w' => e = .returned (.tuple #[.int .i64 0, .int .i64 (-1)]) ∧ Below w.heap.size w w' := by
  have hl : largeB h = largeC exC := large_at H
  refine (Check_any h exC w H).mono ?_
  rintro e w' ⟨rfl, hb⟩
  rw [hl, exC_err, show chkAt exC (largeC exC) = -1 from by kernel_rfl]
  exact ⟨rfl, hb⟩
theorem Print_ex (h : CodeH) (w : World) (H : CodeAt w w.heap.size h exC) (hv : Vars w.heap.size w) : Calls Tryz.prog 21 #[h.v] w fun e w' => e = .returned (.tuple #[.string exT, .int .i64 0]) ∧ Below w.heap.size w w' := by
  have hl : largeB h = false := (large_at H).trans exC_large
  refine (Print_ok h exC (fun _ => ⟨#[]⟩) w H (by rw [hl]; exact exC_fine) hv.pow (fun x hx => (by cases hx))).mono ?_
  rintro e w' ⟨rfl, hb⟩
  rw [exT_print]
  exact ⟨rfl, hb⟩
/-- The code joined to itself: what is looked at. -/
def exJ : CodeD := joinD ⟨⟨none, 7, 7⟩, ⟨none, 1, 1⟩, ⟨none, 0, 0⟩, ⟨none, 0, 0⟩, ⟨none, 0, 0⟩, ⟨none, 0, 0⟩, ⟨none, 0, 0⟩⟩ exC exC
theorem Join_ex (h : CodeH) (w : World) (H : CodeAt w w.heap.size h exC) : Calls Tryz.prog 18 #[h.v, h.v] w fun e w' => ∃ z : CodeH, e = .returned (.tuple #[z.v, .int .i64 0]) ∧ CodeAt w' w'.heap.size z exJ ∧ Below w.heap.size w w' := by
  have hl : largeB h = false := (large_at H).trans exC_large
  have hj : joinD h exC exC = exJ := by
    obtain ⟨⟨ia, i2, ic⟩, ⟨pa, p2, pc⟩, ⟨ta, t2, tc⟩, ⟨sa, s2, sc⟩, ⟨ga, g2, gc⟩, ⟨ra, r2, rc⟩, ⟨oa, o2, oc⟩⟩ := h
    obtain rfl : i2 = 7 := H.ni.1
    obtain rfl : p2 = 1 := H.np.1
    obtain rfl : t2 = 0 := H.nt.1
    obtain rfl : s2 = 0 := H.ns.1
    obtain rfl : g2 = 0 := H.ng.1
    obtain rfl : r2 = 0 := H.nr.1
    obtain rfl : o2 = 0 := H.no.1
    rfl
  refine (Join_ok h h exC exC w H H (by rw [hl]; exact exC_fine) (by rw [hl]; exact exC_fine)).mono ?_
  rintro e w' ⟨hb, ⟨h1, _⟩ | ⟨_, z, rfl, hc⟩⟩
  · rw [hj, show largeD exJ = false from by kernel_rfl] at h1
    cases h1
  · rw [hj] at hc
    exact ⟨z, rfl, hc, hb⟩
theorem Same_ex (h g : CodeH) (w : World) (H : CodeAt w w.heap.size h exC) (G : CodeAt w w.heap.size g exC) : Calls Tryz.prog 16 #[h.v, g.v] w fun e w' => e = .returned (.bool true) ∧ Below w.heap.size w w' := by
  refine (Same_any h g exC exC w H G).mono ?_
  rintro e w' ⟨rfl, hb⟩
  exact ⟨by simp, hb⟩
theorem Name_ex (w : World) : Calls Tryz.prog 25 #[.int .i64 48] w fun e w' => e = .returned (.tuple #[.string ⟨#[106, 117, 109, 112, 102, 97, 108, 115, 101]⟩, .int .i64 0]) ∧ Below w.heap.size w w' := by
  refine (Name_any 48 w).mono ?_
  rintro e w' ⟨rfl, hb⟩
  exact ⟨by rw [show opName 48 = ⟨#[106, 117, 109, 112, 102, 97, 108, 115, 101]⟩ from by kernel_rfl, show opIs 48 = true from by kernel_rfl]; rfl, hb⟩
end Go.Proofs.YtmfnholhhakgaaaGreatDoor
end
section
namespace Go.Proofs.YtmfnholhhakgaaaGreatDoor
open Go Go.Proofs Go.RowKit Go.Sort
set_option maxRecDepth 100000
theorem Reads.alloc {w : World} {size n : Nat} {A : Option Addr} {xs : List Value} (h : Reads w w.heap.size size A n xs) (o : Obj) : Reads (w.alloc o) (w.alloc o).heap.size size A n xs :=
  (h.below ((Below.refl _ _).alloc (Nat.le_refl _) o)).more (by simp)
theorem exJ_procs {w w' : World} {j : CodeH} (H : CodeAt w w.heap.size j exJ) (hb : Below w.heap.size w w') : ∃ ad, j.p.a = some ad ∧ j.p.n = 2 ∧ w'.cell? { block := ad.block, off := ad.off + 5 } = some (.int .i64 10) := by
  have hn : j.p.n = 2 := H.np.1
  obtain ⟨ad, hA, hk, hc⟩ := H.p.2 (by omega)
  exact ⟨ad, hA, hn, (hb.cell (p := ad.add 5) (by rw [block_of_add]; exact hk)).trans (hc 5 _ rfl)⟩
theorem exJ_instrs {w w' : World} {j : CodeH} (H : CodeAt w w.heap.size j exJ) (hb : Below w.heap.size w w') : ∃ ad, j.i.a = some ad ∧ j.i.n = 14 ∧ w'.cell? { block := ad.block, off := ad.off + 28 } = some (.int .i64 18) ∧ w'.cell? { block := ad.block, off := ad.off + 28 + 1 } = some (.int .i64 1) ∧ w'.cell? { block := ad.block, off := ad.off + 28 + 2 } = some (.int .i64 0) ∧ w'.cell? { block := ad.block, off := ad.off + 28 + 3 } = some (.int .i64 0) := by
  have hn : j.i.n = 14 := H.ni.1
  obtain ⟨ad, hA, hk, hc⟩ := H.i.2 (by omega)
  have hk' : ∀ m, w'.cell? (ad.add m) = w.cell? (ad.add m) := fun m => hb.cell (p := ad.add m) (by rw [block_of_add]; exact hk)
  exact ⟨ad, hA, hn, (hk' 28).trans (hc 28 _ rfl), (hk' 29).trans (hc 29 _ rfl), (hk' 30).trans (hc 30 _ rfl), (hk' 31).trans (hc 31 _ rfl)⟩
theorem below_alloc_then {w w' : World} {o : Obj} (hb : Below (w.alloc o).heap.size (w.alloc o) w') : Below w.heap.size w w' := ((Below.refl w.heap.size w).alloc (Nat.le_refl _) o).trans (hb.mono (by simp))
set_option maxHeartbeats 2000000 in
theorem sanity_ok (w : World) (hv : Vars w.heap.size w) : Calls Tryz.prog 13 #[] w fun e w' => e = .returned (.bool true) ∧ Below w.heap.size w w' := by
  have HV := Lib.hid hv
  clear hv
  go_enter Tryz.func13, Tryz.ntmps13
  go_wp2_with (first
    | (go_at_call 41; refine (example_ok _).mono ?_; rintro e w1 ⟨h, rfl, hc, hb⟩; have HC := Lib.hid hc; have HB := Lib.hid hb; have HV1 := Lib.hid (HV.out.at hb hb.size); have B0 := Lib.hid (BInv.start h w1 30); clear hc hb; unfold CodeH.v)
    | (go_at_call 14; refine (Check_ex h _ (HC.out.at B0.out.b)).mono ?_; rintro e w2 ⟨rfl, hb⟩; have B2 := Lib.hid (B0.out.below hb); clear hb; have y0 := B2.out.c0; have y1 := B2.out.c1; have y2 := B2.out.c2; have y3 := B2.out.c3; have y4 := B2.out.c4; have y5 := B2.out.c5; have y6 := B2.out.c6)
    | (go_at_call 32; refine (Entries_ex h _ (HC.out.at B2.out.b)).mono ?_; rintro e w3 ⟨A1, q1, rfl, hr, hb⟩; have B3 := Lib.hid (B2.out.below hb); have R1 := Lib.hid hr; clear hb hr; clear y0 y1 y2 y3 y4 y5 y6; have y0 := B3.out.c0; have y1 := B3.out.c1; have y2 := B3.out.c2; have y3 := B3.out.c3; have y4 := B3.out.c4; have y5 := B3.out.c5; have y6 := B3.out.c6)
    | (go_at_call 33; refine (Next_ex2 h _ (HC.out.at B4.out.b)).mono ?_; rintro e w5 ⟨A3, q3, rfl, hr, hb⟩; have B5 := Lib.hid (B4.out.below hb); have R15 := Lib.hid ((R14.out.below hb).more hb.size); have R3 := Lib.hid hr; clear hb hr R14; clear y0 y1 y2 y3 y4 y5 y6)
    | (go_at_call 33; refine (Next_ex6 h _ (HC.out.at B3.out.b)).mono ?_; rintro e w4 ⟨A2, q2, rfl, hb⟩; have B4 := Lib.hid (B3.out.below hb); have R14 := Lib.hid ((R1.out.below hb).more hb.size); clear hb R1; clear y0 y1 y2 y3 y4 y5 y6; have y0 := B4.out.c0; have y1 := B4.out.c1; have y2 := B4.out.c2; have y3 := B4.out.c3; have y4 := B4.out.c4; have y5 := B4.out.c5; have y6 := B4.out.c6)
    | (go_at_call 35; refine (sameInts_any A3 (some ⟨w6.heap.size, 0, none⟩) 1 q3 1 1 [3] [3] _ (R36.out.alloc _) (Reads.block (heap_alloc_new w6 _) rfl) (by decide)).mono ?_; rintro e w7 ⟨rfl, hb⟩; rw [show (([3] : List Int) == [3]) = true from rfl]; have B7 := Lib.hid ((B6.out.alloc _).below hb); clear hb; have y0 := B7.out.c0; have y1 := B7.out.c1; have y2 := B7.out.c2; have y3 := B7.out.c3; have y4 := B7.out.c4; have y5 := B7.out.c5; have y6 := B7.out.c6)
    | (go_at_call 35; refine (sameInts_any A1 (some ⟨w5.heap.size, 0, none⟩) 2 q1 2 2 [0, 3] [0, 3] _ (R15.out.alloc _) (Reads.block (heap_alloc_new w5 _) rfl) (by decide)).mono ?_; rintro e w6 ⟨rfl, hb⟩; rw [show (([0, 3] : List Int) == [0, 3]) = true from rfl]; have B6 := Lib.hid ((B5.out.alloc _).below hb); have R36 := Lib.hid (((R3.out.alloc _).below hb).more hb.size); clear hb)
    | (go_at_call 21; refine (Print_ex h _ (HC.out.at B7.out.b) (HV1.out.at B7.out.b B7.out.b.size)).mono ?_; rintro e w8 ⟨rfl, hb⟩; have B8 := Lib.hid (B7.out.below hb); clear hb; clear y0 y1 y2 y3 y4 y5 y6)
    | (go_at_call 23; refine (Parse_halt _ (HV1.out.at B11.out.b B11.out.b.size)).mono ?_; rintro e w11 ⟨rfl, hb⟩; have B12 := Lib.hid (B11.out.below hb); have X12 := Lib.hid (X11.out.below hb); have J12 := Lib.hid (J11.out.below hb); clear hb)
    | (go_at_call 23; refine (Parse_ex _ (HV1.out.at B8.out.b B8.out.b.size)).mono ?_; rintro e w9 ⟨z, rfl, hc, hb⟩; have B9 := Lib.hid ((B8.out.below hb).alloc (.cells #[.slice z.i.a z.i.n z.i.c, .slice z.p.a z.p.n z.p.c, .slice z.t.a z.t.n z.t.c, .slice z.s.a z.s.n z.s.c, .slice z.g.a z.g.n z.g.c, .slice z.r.a z.r.n z.r.c, .slice z.o.a z.o.n z.o.c] 30)); have HX := Lib.hid hc; have X9 := Lib.hid (BInv.start z w9 30); clear hc hb; unfold CodeH.v; have y0 := B9.out.c0; have y1 := B9.out.c1; have y2 := B9.out.c2; have y3 := B9.out.c3; have y4 := B9.out.c4; have y5 := B9.out.c5; have y6 := B9.out.c6)
    | (go_at_call 18; refine (Join_ex h _ (HC.out.at B9.out.b)).mono ?_; rintro e w10 ⟨j, rfl, hc, hb⟩; have B11 := Lib.hid ((B9.out.below hb).alloc (.cells #[.slice j.i.a j.i.n j.i.c, .slice j.p.a j.p.n j.p.c, .slice j.t.a j.t.n j.t.c, .slice j.s.a j.s.n j.s.c, .slice j.g.a j.g.n j.g.c, .slice j.r.a j.r.n j.r.c, .slice j.o.a j.o.n j.o.c] 30)); have X11 := Lib.hid ((X9.out.below hb).alloc (.cells #[.slice j.i.a j.i.n j.i.c, .slice j.p.a j.p.n j.p.c, .slice j.t.a j.t.n j.t.c, .slice j.s.a j.s.n j.s.c, .slice j.g.a j.g.n j.g.c, .slice j.r.a j.r.n j.r.c, .slice j.o.a j.o.n j.o.c] 30)); have HJ := Lib.hid hc; have J11 := Lib.hid (BInv.start j w10 30); clear hc hb; clear y0 y1 y2 y3 y4 y5 y6; unfold CodeH.v)
    | (go_at_call 25; refine (Name_ex _).mono ?_; rintro e w12 ⟨rfl, hb⟩; have hb' := below_alloc_then hb; have B13 := Lib.hid (B12.out.below hb'); have X13 := Lib.hid (X12.out.below hb'); have J13 := Lib.hid (J12.out.below hb'); clear hb hb'; have y0 := B13.out.c0; have y1 := B13.out.c1; have y2 := B13.out.c2; have y3 := B13.out.c3; have y4 := B13.out.c4; have y5 := B13.out.c5; have y6 := B13.out.c6; have x0 := X13.out.c0; have x1 := X13.out.c1; have x2 := X13.out.c2; have x3 := X13.out.c3; have x4 := X13.out.c4; have x5 := X13.out.c5; have x6 := X13.out.c6)
    | (go_at_call 16; refine (Same_ex z h _ (HX.out.at X13.out.b) (HC.out.at B13.out.b)).mono ?_; rintro e w13 ⟨rfl, hb⟩; clear x0 x1 x2 x3 x4 x5 x6; clear y0 y1 y2 y3 y4 y5 y6; have J14 := Lib.hid (J13.out.below hb); have HBE := Lib.hid (HB.out.trans ((B13.out.below hb).b.mono HB.out.size)); clear hb; obtain ⟨ap, hap, hpn, pc⟩ := exJ_procs HJ.out J14.out.b; obtain ⟨ai, hai, hin, ic0, ic1, ic2, ic3⟩ := exJ_instrs HJ.out J14.out.b; have d0 := J14.out.c0; have d1 := J14.out.c1; rw [hai, hin] at d0; rw [hap, hpn] at d1; clear hap hpn hai hin))
  go_ret
  exact ⟨rfl, HBE.out⟩
end Go.Proofs.YtmfnholhhakgaaaGreatDoor
end
