/- CodeParts: plain: small codes joined are not large; what is reached in a joined code, by flags; a row that is appended to reads as before; what the walk asks of memory. -/
import Derived.Test.YtmfnholhhakgaaaGreatDoorJpl
import Derived.Test.YtmfnholhhakgaaaGreatDoorCtl
import Derived.Test.YtmfnholhhakgaaaGreatDoorJbd
namespace Go.Proofs.YtmfnholhhakgaaaGreatDoor
open Go Go.Proofs Go.RowKit Go.Sort
open Classical
section
variable {h h2 z : CodeH} {a b c : CodeD}
theorem small_parts (hs : smallB c = true) : c.instrs.length ≤ 300 ∧ c.procs.length ≤ 40 ∧ c.thunks.length ≤ 40 ∧ c.switches.length ≤ 40 ∧ c.strings.length ≤ 40 ∧ c.reals.length ≤ 40 ∧ c.owns.length ≤ 40 := by
  unfold smallB at hs
  simp only [Bool.and_eq_true, decide_eq_true_eq] at hs
  obtain ⟨⟨⟨⟨⟨⟨⟨⟨_, _⟩, h1⟩, h2⟩, h3⟩, h4⟩, h5⟩, h6⟩, h7⟩ := hs
  refine ⟨?_, ?_, ?_, ?_, ?_, ?_, ?_⟩ <;> omega
theorem small_join2 (h : CodeH) (sa : smallB a = true) (sb : smallB b = true) (h0 : 0 < a.instrs.length) : largeD (joinD h a b) = false := by
  have h1 := small_parts sa
  have h2 := small_parts sb
  unfold largeD joinD
  simp only [List.length_append, List.length_map, decide_eq_false_iff_not]
  omega
theorem small_join3 (h z : CodeH) (sa : smallB a = true) (sb : smallB b = true) (sc : smallB c = true) (h0 : 0 < a.instrs.length) : largeD (joinD z (joinD h a b) c) = false := by
  have h1 := small_parts sa
  have h2 := small_parts sb
  have h3 := small_parts sc
  unfold largeD joinD
  simp only [List.length_append, List.length_map, decide_eq_false_iff_not]
  omega
theorem small_join3' (h z : CodeH) (sa : smallB a = true) (sb : smallB b = true) (sc : smallB c = true) (h0 : 0 < a.instrs.length) : largeD (joinD z a (joinD h b c)) = false := by
  have h1 := small_parts sa
  have h2 := small_parts sb
  have h3 := small_parts sc
  unfold largeD joinD
  simp only [List.length_append, List.length_map, decide_eq_false_iff_not]
  omega
theorem rch_flag {k : Nat} (hk : k < c.instrs.length) : (rchL c)[k]? = some (decide (Rch c k)) := by
  unfold rchL
  rw [List.getElem?_map, List.getElem?_range hk]
  rfl
theorem flag_left (L : Lens h a) (A : Well a) (B : Well b) (ha : 0 < h.i.n) (hb : 0 < b.instrs.length) {i : Nat} (hi : i < h.i.n) : ∃ t, (rchL (joinD h a b))[i]? = some t ∧ (rchL a)[i]? = some t := by
  refine ⟨decide (Rch (joinD h a b) i), rch_flag (by rw [join_n L]; omega), ?_⟩
  rw [rch_flag (by rw [← L.i]; exact hi)]
  congr 1
  exact decide_eq_decide.2 ⟨rch_left_of L B, fun h => (rch_parts L A B ha hb h).1 hi⟩
theorem flag_right (L : Lens h a) (A : Well a) (B : Well b) (ha : 0 < h.i.n) (hb : 0 < b.instrs.length) {i : Nat} (hi : i < b.instrs.length) :
    ∃ t s u, (rchL (joinD h a b))[h.i.n + i]? = some t ∧ (rchL b)[i]? = some s ∧ (rchL (joinD h a b))[h.i.n]? = some u ∧ (t = true → s = true) ∧ (u = true → t = s) := by
  have h1 : Rch (joinD h a b) (h.i.n + i) → Rch b i := fun h => by
    have := (rch_parts L A B ha hb h).2 (by omega)
    rwa [Nat.add_sub_cancel_left] at this
  refine ⟨_, _, _, rch_flag (by rw [join_n L]; omega), rch_flag hi, rch_flag (by rw [join_n L]; omega), fun ht => ?_, fun hu => ?_⟩
  · exact decide_eq_true (h1 (of_decide_eq_true ht))
  · exact decide_eq_decide.2 ⟨h1, fun hr => rch_right_of L B (of_decide_eq_true hu) hr⟩
end
/-- A row that is appended to is there as before. -/
theorem run_cat_keep {t e : TypeId} {size bytes : Nat} {z : Value} (E : Elem t e size bytes z) (w : World) (ty : TypeId) (base : Nat) (v : Value) (n : Nat) (xs : List Value) (hown : w.ownsRow base e size v n xs)
    (b2 : Nat) (v2 : Value) (m : Nat) (news : List Value) (h2 : w.ownsRow b2 e size v2 m news) (h1 : ∀ u ∈ news, u.oneCell' = true) (h63 : n + m ≤ 1000000000000) (hbase : base ≤ w.heap.size) :
    ∃ v' w', (Builtin.append_ #[t, t] ty #[v, v2]).run Tryz.prog w = .ok v' w' ∧ w'.ownsRow base e size v' (n + m) (xs ++ news) ∧ w.grownBy w' v.ownBlock ∧ w'.ownsRow base e size v n xs := by
  rcases h2.2 with ⟨rfl, rfl⟩ | ⟨g2, cap2, cur2, rfl, _, _, _⟩
  · have hl : news = [] := List.eq_nil_of_length_eq_zero (by have := h2.1; simpa using this)
    subst hl
    exact ⟨v, w, run_app_none base E ty v n 0 xs hown, by simpa using hown, ⟨rfl, rfl, rfl, Nat.le_refl _, fun _ _ _ => rfl⟩, hown⟩
  · obtain ⟨i, hi, hz, hsz, hby⟩ := E.i
    have hEb := E.b
    have hEs := E.s
    have hEp := E.p
    have hEu := E.u
    clear E
    subst hsz hby
    have hb : (n + m) * i.bytes ≤ 140737488355328 := by
      calc (n + m) * i.bytes ≤ 1000000000000 * 64 := Nat.mul_le_mul h63 hEb
        _ ≤ _ := by decide
    obtain ⟨v', w', hr, h3, h4, _⟩ := run_append_own (P := Tryz.prog) w base t ty e i z i.size i.bytes hEu hi hz rfl rfl hEs hEp v n xs hown ⟨g2, 0, none⟩ m cap2 news h2.1 (h2.cells rfl) h1 (by unfold maxLen; omega) hb hbase
    refine ⟨v', w', hr, h3, h4, hown.1, ?_⟩
    rcases hown.2 with hn | ⟨g, cap, cur, rfl, hbg, hg, hnc, hcm, hcs, htake⟩
    · exact .inl hn
    · refine .inr ?_
      by_cases hroom : n + m ≤ cap
      · have hfit : n * i.size + news.length ≤ cur.size := by rw [h2.1, hcs, ← Nat.add_mul]; exact Nat.mul_le_mul_right _ hroom
        have hr2 := run_append_room (P := Tryz.prog) w t ty e i hEu hi g n cap cur hg ⟨g2, 0, none⟩ m cap2 news h2.1 (h2.cells rfl) h1 hroom hfit
        rw [hr] at hr2
        injection hr2 with e1 e2
        subst e2
        have hle : n * i.size ≤ cur.size := by omega
        refine ⟨g, cap, _, rfl, hbg, setRow_heap w g cur _ e _ hg, hnc, hcm, ?_, ?_⟩
        · simp only [List.size_toArray, List.length_append, List.length_take, List.length_drop, Array.length_toList]
          omega
        · show ((cur.toList.take (n * i.size) ++ news ++ cur.toList.drop (n * i.size + news.length))).take (n * i.size) = xs
          rw [List.append_assoc, List.take_append_of_le_length (by rw [List.length_take, Array.length_toList]; omega), List.take_take, Nat.min_self]
          exact htake
      · have hr2 := run_append_grow (P := Tryz.prog) w t ty e i z hEu hi hz ⟨g, 0, none⟩ n cap xs hown.1 (hown.cells rfl) ⟨g2, 0, none⟩ m cap2 news h2.1 (h2.cells rfl) (by omega) (by omega) (growslice_fits (by omega) hb)
        rw [hr] at hr2
        injection hr2 with e1 e2
        subst e2
        exact ⟨g, cap, cur, rfl, hbg, (heap_alloc_old w.drew _ (Array.getElem?_eq_some_iff.1 hg).1).trans hg, hnc, hcm, hcs, htake⟩
theorem wpList_catK {t e : TypeId} {size bytes : Nat} {z : Value} (E : Elem t e size bytes z) {w : World} {ops : Array Oper} {rest : List Oper} {o : Oper} {a : Act} {Q : Exit → Act → World → Prop} (hw : Region.wanted o (yielded ops a.tmps) = true) (s x : Operand)
    (ho : o.op = .call { callee := .builtin .append, args := #[s, x], argTypes := #[t, t] }) (base : Nat) (v : Value) (n : Nat) (xs : List Value) (hs : a.eval s = v) (hown : w.ownsRow base e size v n xs)
    (b2 : Nat) (v2 : Value) (m : Nat) (news : List Value) (hx : a.eval x = v2) (h2 : w.ownsRow b2 e size v2 m news) (h1 : ∀ u ∈ news, u.oneCell' = true)
    (h63 : n + m ≤ 1000000000000) (hbase : base ≤ w.heap.size)
    (h : ∀ v' w', w'.ownsRow base e size v' (n + m) (xs ++ news) → w.grownBy w' v.ownBlock → w'.ownsRow base e size v n xs → wpList Tryz.prog ops Q rest (a.put o.dst v') w') : wpList Tryz.prog ops Q (o :: rest) a w := by
  obtain ⟨v', w', hrun, h3, h4, h5⟩ := run_cat_keep E w o.type base v n xs hown b2 v2 m news h2 h1 h63 hbase
  refine wpList_step fun K hK => ?_
  rw [if_pos hw]
  unfold Oper.wp
  simp [execOp, ho, resolve, invoke, builtin, hs, hx, hrun, Result.andThen]
  exact hK _ _ (h v' w' h3 h4 h5)
section
variable {h : CodeH} {a b : CodeD}
theorem joined_of {w w' : World} {e : Ending} (hl : largeD (joinD h a b) = false) (hJ : JoinPost h a b w e w') :
    ∃ z : CodeH, e = .returned (.tuple #[z.v, .int .i64 0]) ∧ CodeAt w' w'.heap.size z (joinD h a b) ∧ Below w.heap.size w w' := by
  obtain ⟨hb, ⟨h1, _⟩ | ⟨_, z, he, hz⟩⟩ := hJ
  · rw [hl] at h1; cases h1
  · exact ⟨z, he, hz, hb⟩
theorem fine_join {W : World} {N : Nat} {d : CodeH} (hd : CodeAt W N d (joinD h a b)) (L : Lens h a) (A : Well a) (B : Well b) (hl : largeD (joinD h a b) = false) : fineB (joinD h a b) (largeB d) = true := by
  rw [largeD_of hd, hl]
  exact well_fine (well_join L A B)
end
theorem Same_eq (h g : CodeH) (a b : CodeD) (w : World) (Ha : CodeAt w w.heap.size h a) (Hb : CodeAt w w.heap.size g b) (he : a = b) :
    Calls Tryz.prog 16 #[.agg #[.slice h.i.a h.i.n h.i.c, .slice h.p.a h.p.n h.p.c, .slice h.t.a h.t.n h.t.c, .slice h.s.a h.s.n h.s.c, .slice h.g.a h.g.n h.g.c, .slice h.r.a h.r.n h.r.c, .slice h.o.a h.o.n h.o.c], .agg #[.slice g.i.a g.i.n g.i.c, .slice g.p.a g.p.n g.p.c, .slice g.t.a g.t.n g.t.c, .slice g.s.a g.s.n g.s.c, .slice g.g.a g.g.n g.g.c, .slice g.r.a g.r.n g.r.c, .slice g.o.a g.o.n g.o.c]] w fun e w' => e = .returned (.bool true) ∧ Below w.heap.size w w' :=
  (Same_any h g a b w Ha Hb).mono fun e w' ⟨h1, h2⟩ => ⟨h1.trans (by simp [he]), h2⟩
theorem first_cell {w : World} {base g n cap : Nat} {l : List Int} {z : Int} (H : w.ownsRow base 3 1 (.slice (some ⟨g, 0, none⟩) n cap) n (l.map (Value.int .i64))) (h : l[0]? = some z) : w.cell? ⟨g, 0, none⟩ = some (.int .i64 z) := by
  have := H.cells (g := g) rfl 0 (.int .i64 z) (by rw [List.getElem?_map, h]; rfl)
  exact this
/-- A row that a later call made stays as it is when an earlier one is appended to. -/
theorem own_apart {w w' : World} {base B e : Nat} {size n : Nat} {v v1 : Value} {xs : List Value} (h : w.ownsRow base e size v n xs) (hlt : ∀ k, v1.ownBlock = some k → B ≤ k ∧ k < base) (hg : w.grownBy w' v1.ownBlock) : w'.ownsRow base e size v n xs := by
  refine h.kept hg ?_
  cases hv : v.ownBlock with
  | none => exact .inl rfl
  | some k =>
    refine .inr fun e => ?_
    have h1 := (h.lt k hv).1
    have h2 := (hlt k e.symm).2
    omega
theorem below_app {w0 w w' : World} {B : Nat} {v : Value} (hb : Below B w0 w) (hg : w.grownBy w' v.ownBlock) (hB : B ≤ w.heap.size) {C : Nat} (hlt : ∀ k, v.ownBlock = some k → B ≤ k ∧ k < C) : Below B w0 w' := hb.grown hg hB fun k hk => (hlt k hk).1
theorem own_pos {w : World} {base : Nat} {e : TypeId} {size : Nat} {v : Value} {n : Nat} {xs : List Value} (h : w.ownsRow base e size v n xs) (hn : 0 < n) : ∃ g c, v = .slice (some ⟨g, 0, none⟩) n c ∧ base ≤ g := by
  rcases h.2 with ⟨_, h0⟩ | ⟨g, cap, cur, h', hb, _⟩
  · omega
  · exact ⟨g, cap, h', hb⟩
/-- All but the first of a row. -/
theorem tail_reads {w : World} {base g n cap : Nat} {z : Int} {l : List Int} {A : Option Addr} (H : w.ownsRow base 3 1 (.slice (some ⟨g, 0, none⟩) n cap) n ((z :: l).map (Value.int .i64))) (hA : A = if cap = 1 then some ⟨g, 0, none⟩ else some ⟨g, 1, none⟩) : Reads w w.heap.size 1 A (n - 1) (l.map (Value.int .i64)) := by
  have hn : n = l.length + 1 := by have := H.1; simp at this; omega
  have hlt := (H.lt g rfl).2
  have hcap : n ≤ cap := by
    rcases H.2 with ⟨h, _⟩ | ⟨g', cap', cur, h, _, _, h1, _⟩
    · cases h
    · cases h; exact h1
  refine ⟨by rw [List.length_map]; omega, fun h0 => ?_⟩
  rw [if_neg (by omega)] at hA
  refine ⟨_, hA, hlt, fun j u hu => ?_⟩
  have := H.cells (g := g) rfl (j + 1) u (by rw [List.map_cons, List.getElem?_cons_succ]; exact hu)
  have e1 : (⟨g, 0, none⟩ : Addr).add (j + 1) = ⟨g, j + 1, none⟩ := by unfold Addr.add; simp
  have e2 : (⟨g, 1, none⟩ : Addr).add j = ⟨g, j + 1, none⟩ := by unfold Addr.add; split <;> simp_all [Nat.add_comm]
  rw [e2, ← e1]
  exact this
theorem one_map (l : List Int) : ∀ u ∈ l.map (Value.int .i64), u.oneCell' = true := by
  intro u hu
  obtain ⟨x, _, rfl⟩ := List.mem_map.1 hu
  rfl
theorem bool_cases {t s u : Bool} (h1 : t = true → s = true) (h2 : u = true → t = s) : (t = true ∧ s = true ∧ u = true) ∨ (t = true ∧ s = true ∧ u = false) ∨ (t = false ∧ s = false ∧ u = true) ∨ (t = false ∧ u = false) := by
  cases t <;> cases s <;> cases u <;> simp_all
/-- The three boxes and the flags, at the head of the last loop. -/
structure PTI (N M : Nat) (h g d : CodeH) (w wB wD wr : World) (A1 A2 A3 : Option Addr) (RL SL TL : List Bool) : Prop where
  a : BInv N h w wr
  b : BInv (N + 1) g wB wr
  d : BInv M d wD wr
  r1 : Reads wr wr.heap.size 1 A1 RL.length (RL.map Value.bool)
  r2 : Reads wr wr.heap.size 1 A2 SL.length (SL.map Value.bool)
  r3 : Reads wr wr.heap.size 1 A3 TL.length (TL.map Value.bool)
theorem PTI.drewN {N M : Nat} {h g d : CodeH} {w wB wD wr : World} {A1 A2 A3 : Option Addr} {RL SL TL : List Bool} (H : PTI N M h g d w wB wD wr A1 A2 A3 RL SL TL) (q : Nat) : PTI N M h g d w wB wD (wr.drewN q) A1 A2 A3 RL SL TL :=
  { a := H.a.drewN' q, b := H.b.drewN' q, d := H.d.drewN' q, r1 := H.r1.keepN q, r2 := H.r2.keepN q, r3 := H.r3.keepN q }
end Go.Proofs.YtmfnholhhakgaaaGreatDoor
