/- code.Reached: the contract: which instructions can be reached. -/
import Derived.Test.YtmfnholhhakgaaaGreatDoorPlc
import Derived.Deep.LoopGhost
import Derived.Lib.RowBridge
import Derived.Laws.AppendOwnNone
import Derived.OwnWalk
import Derived.Laws.OwnMore
namespace Go.Proofs.YtmfnholhhakgaaaGreatDoor
open Go Go.Proofs Go.RowKit Go.Sort
open Classical
set_option maxRecDepth 100000

/-- The places behind place k. -/
def nxL (c : CodeD) (k : Nat) : List Int := match c.instrs[k]? with | some x => nextL x k c.instrs.length | none => []
/-- Place k can be reached. -/
inductive Rch (c : CodeD) : Nat → Prop
  | ent (k : Nat) (h : (k : Int) ∈ entL c) : Rch c k
  | step (k j : Nat) (h : Rch c k) (hj : (j : Int) ∈ nxL c k) : Rch c j
/-- For each place, whether it can be reached. -/
noncomputable def rchL (c : CodeD) : List Bool := (List.range c.instrs.length).map fun k => decide (Rch c k)

theorem own_cut {w : World} {base : Nat} {e : TypeId} {size : Nat} {A : Option Addr} {n cap : Nat} {xs : List Value} (h : w.ownsRow base e size (.slice A n cap) n xs) (k : Nat) (hk : k ≤ n) (h0 : 0 < n) :
    w.ownsRow base e size (.slice A k cap) k (xs.take (k * size)) := by
  rcases h.2 with ⟨h', h2⟩ | ⟨g, cap', cur, h', hb, hg, hnc, hcm, hcs, htake⟩
  · simp at h'; omega
  · simp only [Value.slice.injEq, true_and] at h'
    obtain ⟨rfl, rfl⟩ := h'
    refine ⟨?_, .inr ⟨g, cap, cur, rfl, hb, hg, by omega, hcm, hcs, ?_⟩⟩
    · rw [List.length_take, h.1]
      exact Nat.min_eq_left (Nat.mul_le_mul_right _ hk)
    · rw [← htake, List.take_take, Nat.min_eq_left (Nat.mul_le_mul_right _ hk)]
theorem own_at {w w' : World} {base B G : Nat} {e : TypeId} {size n m cap : Nat} {xs : List Value} (h : w.ownsRow base e size (.slice (some ⟨G, 0, none⟩) m cap) n xs) (hb : Below B w w') (hG : G < B) : w'.ownsRow base e size (.slice (some ⟨G, 0, none⟩) m cap) n xs := by
  refine ⟨h.1, ?_⟩
  rcases h.2 with ⟨h', _⟩ | ⟨g, cap', cur, h', hbb, hg, h4⟩
  · simp at h'
  · have : G = g := by simpa using congrArg (fun v => match v with | Value.slice (some a) _ _ => a.block | _ => 0) h'
    subst this
    exact .inr ⟨G, cap', cur, h', hbb, by rw [hb.block G hG]; exact hg, h4⟩
/-- What the search carries on: flags bs, still to do st. -/
structure SI (c : CodeD) (bs : List Bool) (st : List Int) : Prop where
  n : bs.length = c.instrs.length
  r : ∀ k, bs[k]? = some true → Rch c k
  s : ∀ z ∈ st, ∃ k : Nat, z = k ∧ k < c.instrs.length ∧ Rch c k
  x : ∀ k, bs[k]? = some true → ∀ j : Nat, (j : Int) ∈ nxL c k → (j : Int) ∈ st ∨ bs[j]? = some true
  e : ∀ j : Nat, (j : Int) ∈ entL c → (j : Int) ∈ st ∨ bs[j]? = some true
/-- How many flags are not set yet. -/
def offs (bs : List Bool) : Nat := bs.countP fun b => !b
theorem offs_le (bs : List Bool) : offs bs ≤ bs.length := List.countP_le_length
theorem offs_set {bs : List Bool} {k : Nat} (h : bs[k]? = some false) : offs (bs.set k true) + 1 = offs bs := by
  induction bs generalizing k with
  | nil => simp at h
  | cons b bs ih =>
    cases k with
    | zero =>
      simp at h
      subst h
      simp [offs]
    | succ k =>
      have := ih (k := k) (by simpa using h)
      simp only [offs, List.set_cons_succ, List.countP_cons] at this ⊢
      omega
theorem SI.start {c : CodeD} (hb : ∀ z ∈ entL c, ∃ k : Nat, z = k ∧ k < c.instrs.length) : SI c (List.replicate c.instrs.length false) (entL c) where
  n := by simp
  r := fun k h => by simp [List.getElem?_replicate] at h
  s := fun z hz => by
    obtain ⟨k, rfl, hk⟩ := hb z hz
    exact ⟨k, rfl, hk, .ent k hz⟩
  x := fun k h => by simp [List.getElem?_replicate] at h
  e := fun j hj => .inl hj
theorem SI.skip {c : CodeD} {bs : List Bool} {st : List Int} {k : Nat} (H : SI c bs (st ++ [(k : Int)])) (hk : bs[k]? = some true) : SI c bs st where
  n := H.n
  r := H.r
  s := fun z hz => H.s z (by simp [hz])
  x := fun i hi j hj => by
    rcases H.x i hi j hj with h | h
    · rcases List.mem_append.1 h with h | h
      · exact .inl h
      · have : j = k := by simp at h; omega
        subst this
        exact .inr hk
    · exact .inr h
  e := fun j hj => by
    rcases H.e j hj with h | h
    · rcases List.mem_append.1 h with h | h
      · exact .inl h
      · have : j = k := by simp at h; omega
        subst this
        exact .inr hk
    · exact .inr h
theorem SI.take {c : CodeD} {bs : List Bool} {st : List Int} {k : Nat} (H : SI c bs (st ++ [(k : Int)])) (hk : bs[k]? = some false) (hb : ∀ z ∈ nxL c k, ∃ j : Nat, z = j ∧ j < c.instrs.length) : SI c (bs.set k true) (st ++ nxL c k) := by
  have hlt := (List.getElem?_eq_some_iff.1 hk).1
  have hR : Rch c k := by
    obtain ⟨j, hj, _, hr⟩ := H.s k (by simp)
    have : k = j := by omega
    exact this ▸ hr
  have hset : ∀ j, bs[j]? = some true ∨ j = k → (bs.set k true)[j]? = some true := fun j hj => by
    by_cases e : k = j
    · subst e; rw [List.getElem?_set_self hlt]
    · rw [List.getElem?_set_ne e]
      rcases hj with h | h
      · exact h
      · exact absurd h.symm e
  have hget : ∀ j, (bs.set k true)[j]? = some true → j = k ∨ bs[j]? = some true := fun j hj => by
    by_cases e : k = j
    · exact .inl e.symm
    · rw [List.getElem?_set_ne e] at hj; exact .inr hj
  refine { n := by rw [List.length_set]; exact H.n, r := ?_, s := ?_, x := ?_, e := ?_ }
  · intro i hi
    rcases hget i hi with rfl | h
    · exact hR
    · exact H.r i h
  · intro z hz
    rcases List.mem_append.1 hz with h | h
    · exact H.s z (by simp [h])
    · obtain ⟨j, rfl, hj⟩ := hb z h
      exact ⟨j, rfl, hj, .step k j hR h⟩
  · intro i hi j hj
    rcases hget i hi with rfl | h
    · exact .inl (by simp [hj])
    · rcases H.x i h j hj with h2 | h2
      · rcases List.mem_append.1 h2 with h3 | h3
        · exact .inl (by simp [h3])
        · exact .inr (hset j (.inr (by simp at h3; omega)))
      · exact .inr (hset j (.inl h2))
  · intro j hj
    rcases H.e j hj with h2 | h2
    · rcases List.mem_append.1 h2 with h3 | h3
      · exact .inl (by simp [h3])
      · exact .inr (hset j (.inr (by simp at h3; omega)))
    · exact .inr (hset j (.inl h2))
theorem SI.done {c : CodeD} {bs : List Bool} (H : SI c bs []) : bs = rchL c := by
  have hall : ∀ k, Rch c k → bs[k]? = some true := fun k hk => by
    induction hk with
    | ent k h => rcases H.e k h with h | h
                 · simp at h
                 · exact h
    | step k j _ hj ih => rcases H.x k ih j hj with h | h
                          · simp at h
                          · exact h
  apply List.ext_getElem?
  intro i
  unfold rchL
  rw [List.getElem?_map]
  by_cases hi : i < c.instrs.length
  · rw [List.getElem?_range hi]
    have hb : bs[i]? = some (bs[i]'(by rw [H.n]; exact hi)) := List.getElem?_eq_getElem _
    rw [hb]
    simp only [Option.map_some, Option.some.injEq]
    cases hv : bs[i]'(by rw [H.n]; exact hi) with
    | true =>
      rw [hv] at hb
      exact (decide_eq_true (H.r i hb)).symm
    | false =>
      rw [hv] at hb
      refine (decide_eq_false fun hr => ?_).symm
      rw [hall i hr] at hb
      cases hb
  · rw [List.getElem?_eq_none (by rw [H.n]; omega), List.getElem?_eq_none (by simp; omega)]
    rfl
/-- A run of elements out of a row that a callee made, appended to a row that the call owns. -/
theorem wpList_cat {t e : TypeId} {size bytes : Nat} {z : Value} (E : Elem t e size bytes z) {w : World} {ops : Array Oper} {rest : List Oper} {o : Oper} {a : Act} {Q : Exit → Act → World → Prop} (hgd : o.guard = none) (s x : Operand)
    (ho : o.op = .call { callee := .builtin .append, args := #[s, x], argTypes := #[t, t] }) (base : Nat) (v : Value) (n : Nat) (xs : List Value) (hs : a.eval s = v) (hown : w.ownsRow base e size v n xs)
    (b2 : Nat) (v2 : Value) (m : Nat) (news : List Value) (hx : a.eval x = v2) (h2 : w.ownsRow b2 e size v2 m news) (h1 : ∀ u ∈ news, u.oneCell' = true)
    (h63 : n + m ≤ 1000000000000) (hbase : base ≤ w.heap.size)
    (h : ∀ v' w', w'.ownsRow base e size v' (n + m) (xs ++ news) → Below base w w' → wpList Tryz.prog ops Q rest (a.put o.dst v') w') : wpList Tryz.prog ops Q (o :: rest) a w := by
  obtain ⟨i, hi, _, _, _⟩ := E.i
  rcases h2.2 with ⟨rfl, rfl⟩ | ⟨g, cap, cur, rfl, _, _, _⟩
  · have hl : news = [] := List.eq_nil_of_length_eq_zero (by have := h2.1; simpa using this)
    subst hl
    refine wpList_append_own_none hgd s x t ho base e i size E.u hi v n xs hs hown hx ?_
    have := h v w (by simpa using hown) (Below.refl _ _)
    exact this
  · exact wpList_run E hgd s x ho base v n xs hs hown ⟨g, 0, none⟩ m cap news hx h2.1 (h2.cells rfl) h1 h63 hbase h
theorem elemBools : Elem 66 4 1 1 (.bool false) := ⟨Tryz.underlying66, info_parts (by kernel_rfl), rfl, by decide, by decide⟩
theorem made_bools (n : Nat) : (madeCells (Value.bool false).cells (n * 1)).toList = (List.replicate n false).map Value.bool := by
  simp [madeCells, Value.cells]
  rw [show (fun x => ([Value.bool false] : List Value)[x % 1]?.getD default) = fun _ => Value.bool false from funext fun x => by simp [Nat.mod_one]]
  simp [List.map_const']
def RetBoolsE (w : World) (l : List Bool) (err : Int) (e : Ending) (w' : World) : Prop := ∃ v, e = .returned (.tuple #[v, .int .i64 err]) ∧ w'.ownsRow w.heap.size 4 1 v l.length (l.map Value.bool) ∧ Below w.heap.size w w'
theorem Reached_bad (h : CodeH) (c : CodeD) (w : World) (H : CodeAt w w.heap.size h c) (hf : fineB c (largeB h) = false) :
    Calls Tryz.prog 34 #[.agg #[.slice h.i.a h.i.n h.i.c, .slice h.p.a h.p.n h.p.c, .slice h.t.a h.t.n h.t.c, .slice h.s.a h.s.n h.s.c, .slice h.g.a h.g.n h.g.c, .slice h.r.a h.r.n h.r.c, .slice h.o.a h.o.n h.o.c]] w
      (RetBoolsE w [] 1) := by
  have HC := Lib.hid H
  clear H
  have B0 := Lib.hid (BInv.start h w 30)
  go_enter Tryz.func34, Tryz.ntmps34
  go_wp2_with (first
    | (go_at_call 56; refine (fine_any h c _ (HC.out.at B0.out.b)).mono ?_; rintro e w1 ⟨rfl, hb1⟩; have B1 := Lib.hid (B0.out.below hb1); clear hb1))
  go_ret2
  exact ⟨_, rfl, World.ownsRow_nil _ _ _ _, B1.out.b⟩
/-- What the walk carries on: the flags lie in block G, what is still to do in a block above. -/
structure GInv (N G : Nat) (h : CodeH) (w wr : World) (n : Nat) (bs : List Bool) (v : Value) (st : List Int) : Prop where
  x : BInv N h w wr
  g : N < G
  z : G + 1 ≤ wr.heap.size
  o : wr.ownsRow (N + 1) 4 1 (.slice (some ⟨G, 0, none⟩) n n) n (bs.map Value.bool)
  t : wr.ownsRow (G + 1) 3 1 v st.length (st.map (Value.int .i64))
theorem GInv.to {N G n : Nat} {h : CodeH} {w wr wx : World} {bs : List Bool} {v v' : Value} {st st' : List Int} (H : GInv N G h w wr n bs v st) (hb : Below (G + 1) wr wx) (ht : wx.ownsRow (G + 1) 3 1 v' st'.length (st'.map (Value.int .i64))) : GInv N G h w wx n bs v' st' :=
  { x := H.x.to (hb.mono (by have := H.g; omega)), g := H.g, z := Nat.le_trans H.z hb.size, o := own_at H.o hb (by omega), t := ht }
theorem GInv.below {N G n : Nat} {h : CodeH} {w wr wx : World} {bs : List Bool} {v : Value} {st : List Int} (H : GInv N G h w wr n bs v st) (hb : Below wr.heap.size wr wx) : GInv N G h w wx n bs v st :=
  H.to (hb.mono H.z) (own_below H.t hb)
theorem GInv.set {N G n : Nat} {h : CodeH} {w wr : World} {bs : List Bool} {v : Value} {st : List Int} (H : GInv N G h w wr n bs v st) (k : Nat) (b : Bool) : GInv N G h w (wr.setCell ⟨G, k, none⟩ (.bool b)) n (bs.set k b) v st := by
  obtain ⟨h1, h2⟩ := H.o.stored k (.bool b)
  refine { x := H.x.to ((Below.refl _ _).setCell H.g _), g := H.g, z := by simpa using H.z, o := by rw [List.map_set]; exact h1, t := ?_ }
  refine H.t.kept h2 ?_
  rcases H.t.2 with ⟨h', _⟩ | ⟨g, cap, cur, h', hg, _⟩
  · exact .inl (by rw [h']; rfl)
  · refine .inr ?_
    rw [h']
    simp only [Value.ownBlock, ne_eq, Option.some.injEq]
    omega
theorem asc_len : ∀ (l : List Int) (lo hi : Int), l.Pairwise (· < ·) → (∀ z ∈ l, lo ≤ z ∧ z < hi) → (l.length : Int) ≤ (if lo ≤ hi then hi - lo else 0)
  | [], lo, hi, _, _ => by split <;> simp <;> omega
  | x :: l, lo, hi, h, hb => by
    rw [List.pairwise_cons] at h
    have hx := hb x (by simp)
    have ih := asc_len l (x + 1) hi h.2 fun z hz => ⟨by have := h.1 z hz; omega, (hb z (by simp [hz])).2⟩
    rw [if_pos (by omega)] at ih ⊢
    simp only [List.length_cons]
    omega
theorem ent_len {c : CodeD} (W : Well c) (h0 : 0 < c.instrs.length) : (entL c).length ≤ c.instrs.length := by
  have := asc_len (entL c) 0 c.instrs.length (cs_lt _) fun z hz => by
    obtain ⟨k, rfl, hk⟩ := ent_raw W h0 z ((mem_cs _ z).1 hz)
    omega
  rw [if_pos (by omega)] at this
  omega
theorem next_len (x : InstrD) (k n : Nat) : (nextL x k n).length ≤ 2 := by
  unfold nextL
  split
  · simp
  · split
    · simp
    · refine Nat.le_trans (Lib.compact_length_le _) ?_
      rw [sortL_length]
      unfold nextRaw
      rw [List.length_append]
      split <;> split <;> simp
theorem nxL_at {c : CodeD} {k : Nat} {x : InstrD} (hx : c.instrs[k]? = some x) : nxL c k = nextL x k c.instrs.length := by unfold nxL; rw [hx]
theorem SI_last {c : CodeD} {bs : List Bool} {st : List Int} (H : SI c bs st) (h0 : 0 < st.length) : ∃ (s : List Int) (k : Nat), st = s ++ [(k : Int)] ∧ k < c.instrs.length := by
  obtain ⟨s, z, rfl⟩ : ∃ s z, st = s ++ [z] := ⟨st.dropLast, st.getLast (by intro e; subst e; simp at h0), (List.dropLast_concat_getLast _).symm⟩
  obtain ⟨k, rfl, hk, _⟩ := H.s z (by simp)
  exact ⟨s, k, rfl, hk⟩
set_option maxHeartbeats 4000000 in
theorem Reached_ok (h : CodeH) (c : CodeD) (w : World) (H : CodeAt w w.heap.size h c) (hf : fineB c (largeB h) = true) :
    Calls Tryz.prog 34 #[.agg #[.slice h.i.a h.i.n h.i.c, .slice h.p.a h.p.n h.p.c, .slice h.t.a h.t.n h.t.c, .slice h.s.a h.s.n h.s.c, .slice h.g.a h.g.n h.g.c, .slice h.r.a h.r.n h.r.c, .slice h.o.a h.o.n h.o.c]] w
      (RetBoolsE w (rchL c) 0) := by
  obtain ⟨hl, W⟩ := fine_well hf
  obtain ⟨hn0, hn1, _⟩ := large_sizes hl
  have HC := Lib.hid H
  have HN := Lib.hid H.ni.1
  have hn00 : 0 < c.instrs.length := by have := HN.out; omega
  have EB := Lib.hid (fine_ent H hf)
  have HW := Lib.hid W
  have hL : (entL c).length ≤ h.i.n := by rw [HN.out]; exact ent_len W hn00
  have HPL := Lib.hid (fun z (hz : z ∈ entL c) => ent_raw W hn00 z ((mem_cs _ z).1 hz))
  have B0 := Lib.hid (BInv.start h w 30)
  obtain ⟨i0, hi0, hz0, hz1, hz2⟩ := elemBools.i
  have hfine : fineB c (largeB h) = true := hf
  clear H hf W hl
  go_enter Tryz.func34, Tryz.ntmps34
  go_wp2_with (first
    | (go_at_call 56; refine (fine_any h c _ (HC.out.at B0.out.b)).mono ?_; rintro e w1 ⟨rfl, hb1⟩; have B1 := Lib.hid (B0.out.below hb1); clear hb1; have x0 := B1.out.c0; have x1 := B1.out.c1; have x2 := B1.out.c2; have x3 := B1.out.c3; have x4 := B1.out.c4; have x5 := B1.out.c5; have x6 := B1.out.c6)
    | (at_make; refine wpList_make_full _ rfl _ _ 66 rfl (w.heap.size + 1) 4 i0 (.bool false) 1 Tryz.underlying66 hi0 hz0 hz1 .i64 .i64 _ _ h.i.n rfl rfl rfl rfl (by rw [hz2]; omega) (by unfold maxLen; omega) B1.out.z ?_; intro w2 ho2 hg2; have O2 := Lib.hid ho2; have B2 := Lib.hid (B1.out.to ((Below.refl _ _).grown hg2 B1.out.z (fun k hk => by cases hk))); clear ho2 hg2 x0 x1 x2 x3 x4 x5 x6; have x0 := B2.out.c0; have x1 := B2.out.c1; have x2 := B2.out.c2; have x3 := B2.out.c3; have x4 := B2.out.c4; have x5 := B2.out.c5; have x6 := B2.out.c6)
    | (go_at_call 78; refine (entries_any h c _ (HC.out.at B2.out.b) EB.out).mono ?_; rintro e w3 ⟨v, rfl, ho3, hb3⟩; have O3 := Lib.hid ho3; have BB3 := Lib.hid hb3; clear ho3 hb3 x0 x1 x2 x3 x4 x5 x6))
  have hGz : w1.heap.size + 1 ≤ w2.heap.size := by
    rcases O2.out.2 with ⟨h', _⟩ | ⟨g, cap, cur, h', _, hg, _⟩
    · simp at h'
    · have := (Array.getElem?_eq_some_iff.1 hg).1
      simp at h'
      omega
  have G0 : Hid (GInv w.heap.size w1.heap.size h w w3 h.i.n (List.replicate h.i.n false) v (entL c)) := Lib.hid
    { x := B2.out.below BB3.out, g := B1.out.z, z := Nat.le_trans hGz BB3.out.size
      o := by have := own_below O2.out BB3.out; rw [made_bools] at this; exact this
      t := own_mono O3.out hGz }
  have S0 : Hid (SI c (List.replicate h.i.n false) (entL c)) := Lib.hid (by rw [HN.out]; exact SI.start HPL.out)
  have hO : offs (List.replicate h.i.n false) ≤ h.i.n := by have := offs_le (List.replicate h.i.n false); simpa using this
  clear O2 O3 BB3 B2 B0 hfine
  go_loopg [5] (4 * h.i.n) (fun gk t wr => ∃ (bs : List Bool) (st : List Int), 3 * offs bs + st.length ≤ gk ∧ gk ≤ 4 * h.i.n ∧ GInv w.heap.size w1.heap.size h w wr h.i.n bs t st ∧ SI c bs st)
  case atStart => exact ⟨_, _, by omega, Nat.le_refl _, G0.out, S0.out⟩
  case round =>
    obtain ⟨bs, st, hm, hm2, hG, hS⟩ := hrel
    clear G0 S0 hO hL
    have GG := Lib.hid hG
    have SS := Lib.hid hS
    clear hG hS
    by_cases h0 : 0 < st.length
    · obtain ⟨s, k, hst, hk⟩ := SI_last SS.out h0
      subst hst
      obtain ⟨g, cap, ht, hcap⟩ : ∃ g cap, u5 = .slice (some ⟨g, 0, none⟩) (s ++ [(k : Int)]).length cap ∧ s.length ≤ cap := by
        rcases GG.out.t.2 with ⟨_, h'⟩ | ⟨g, cap, cur, h', _, _, hnc, _⟩
        · simp at h'
        · exact ⟨g, cap, h', by simp at hnc; omega⟩
      subst ht
      have hlen : (s ++ [(k : Int)]).length = s.length + 1 := by simp
      have c1 : wr.cell? ⟨g, s.length, none⟩ = some (.int .i64 (k : Int)) := by
        have := GG.out.t.cellAt s.length (by rw [hlen]; omega)
        rw [this]
        simp
      rw [hlen] at GG hm ⊢
      have hk1 : k < h.i.n := by have := HN.out; omega
      have hk2 : (k : Int) < (h.i.n : Int) := by omega
      have hs0 : s.length ≤ 80000 := by omega
      have hcap2 : (s.length : Int) ≤ (cap : Int) := by omega
      obtain ⟨b, hb⟩ : ∃ b, bs[k]? = some b := ⟨_, List.getElem?_eq_getElem (by rw [SS.out.n]; exact hk)⟩
      have c2 : wr.cell? ⟨w1.heap.size, k, none⟩ = some (.bool b) := by
        have := GG.out.o.cellAt k (by omega)
        rw [this, List.getElem?_map, hb]
        rfl
      have f2 : wr.frozen? ⟨w1.heap.size, k, none⟩ = false := GG.out.o.frozenAt k
      have TT := Lib.hid (show wr.ownsRow (w1.heap.size + 1) 3 1 (.slice (some ⟨g, 0, none⟩) s.length cap) s.length (s.map (Value.int .i64)) from by
        have h1 := GG.out.t
        rw [hlen] at h1
        have h2 := own_cut h1 s.length (by omega) (by omega)
        rwa [Nat.mul_one, List.map_append, List.take_left' (by simp)] at h2)
      have HB := Lib.hid hb
      clear hlen hb
      cases b with
      | true =>
        have SK := Lib.hid (SS.out.skip HB.out)
        have GK : Hid (GInv w.heap.size w1.heap.size h w wr h.i.n bs (.slice (some ⟨g, 0, none⟩) s.length cap) s) := Lib.hid (GG.out.to (Below.refl _ _) TT.out)
        go_wp2
        go_roundg (gk - 1)
        case rel => exact ⟨bs, s, by omega, by omega, GK.out, SK.out⟩
        case measure => omega
      | false =>
        obtain ⟨x, hx⟩ : ∃ x, c.instrs[k]? = some x := ⟨_, List.getElem?_eq_getElem hk⟩
        have HX := Lib.hid hx
        have SK : Hid (SI c (bs.set k true) (s ++ nextL x k h.i.n)) := Lib.hid (by
          rw [HN.out]
          have h1 := SS.out.take HB.out (by rw [nxL_at hx]; exact next_pl HW.out (List.mem_of_getElem? hx) k)
          rwa [nxL_at hx] at h1)
        have GK : Hid (GInv w.heap.size w1.heap.size h w (wr.setCell ⟨w1.heap.size, k, none⟩ (.bool true)) h.i.n (bs.set k true) (.slice (some ⟨g, 0, none⟩) s.length cap) s) := Lib.hid ((GG.out.to (Below.refl _ _) TT.out : GInv w.heap.size w1.heap.size h w wr h.i.n bs (.slice (some ⟨g, 0, none⟩) s.length cap) s).set k true)
        have HO := Lib.hid (offs_set HB.out)
        have hnl : (nextL x k h.i.n).length ≤ 2 := next_len x k _
        have x0 := GK.out.x.c0; have x1 := GK.out.x.c1; have x2 := GK.out.x.c2; have x3 := GK.out.x.c3; have x4 := GK.out.x.c4; have x5 := GK.out.x.c5; have x6 := GK.out.x.c6
        clear hx TT
        go_wp2_with (first
          | (go_at_call 80; refine (next_any h c _ (HC.out.at GK.out.x.b) k x HX.out hk1).mono ?_; rintro e w5 ⟨v5, rfl, ho5, hb5⟩; have O5 := Lib.hid ho5; have G5 := Lib.hid (GK.out.below hb5); clear ho5 hb5 x0 x1 x2 x3 x4 x5 x6)
          | (at_builtin; refine wpList_cat elemInts rfl _ _ rfl (w1.heap.size + 1) _ _ _ rfl G5.out.t _ _ _ _ rfl O5.out (fun u hu => by obtain ⟨y, _, rfl⟩ := List.mem_map.1 hu; rfl) (by omega) G5.out.z ?_; intro v6 w6 ho6 hb6; have G6 : Hid (GInv w.heap.size w1.heap.size h w w6 h.i.n (bs.set k true) v6 (s ++ nextL x k h.i.n)) := Lib.hid (G5.out.to hb6 (by rw [List.length_append, List.map_append]; exact ho6)); clear ho6 hb6))
        go_roundg (gk - 1)
        case rel => exact ⟨bs.set k true, s ++ nextL x k h.i.n, by rw [List.length_append]; have := HO.out; omega, by omega, G6.out, SK.out⟩
        case measure => omega
    · obtain rfl : st = [] := by cases st with | nil => rfl | cons a l => simp at h0
      have HE := Lib.hid SS.out.done
      have hz : ∃ A cap, u5 = .slice A 0 cap := by
        rcases GG.out.t.2 with ⟨h', _⟩ | ⟨g, cap, cur, h', _⟩
        · exact ⟨_, _, h'⟩
        · exact ⟨_, _, h'⟩
      obtain ⟨A, cap, rfl⟩ := hz
      go_wp2
      go_ret2
      refine ⟨_, rfl, ?_, GG.out.x.b⟩
      have h1 := GG.out.o
      rw [HE.out] at h1
      have h2 : (rchL c).length = h.i.n := by rw [HN.out]; simp [rchL]
      rw [h2]
      exact own_mono h1 (by omega)
end Go.Proofs.YtmfnholhhakgaaaGreatDoor
