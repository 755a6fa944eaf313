/- Maps with keys that are strings; a round that panics; strings.Lines. -/
import Derived.Test.YtmfnholhhakgaaaGreatDoorMhp
import Derived.RangeFuncIn
import Derived.RangeFuncSeq
import Derived.RangeFuncLeaves
import Derived.OwnWalkIn
import Derived.TacticsInMore
import Derived.LoopIn
import Derived.LoopNIn
import Derived.BigFrameIn
import Derived.IntWalk
section
namespace Go.Proofs.YtmfnholhhakgaaaGreatDoor
open Go Go.Proofs Go.RowKit Go.Sort

theorem ba_ne {a b : ByteArray} (h : a ≠ b) : (a == b) = false := by
  show (a.data == b.data) = false
  rw [beq_eq_false_iff_ne]
  exact fun e => h (ByteArray.ext e)
theorem ba_eq (a : ByteArray) : (a == a) = true := by
  show (a.data == a.data) = true
  exact beq_self_eq_true _
theorem findNow_str_none {s : ByteArray} : ∀ (l : List MapEntry) (i : Nat), (∀ x ∈ l, ∃ t, x.key = .string t ∧ t ≠ s) → Instr.findNow .string (.string s) l i = some none
  | [], _, _ => rfl
  | e :: l, i, h => by
    obtain ⟨t, ht, hne⟩ := h e (by simp)
    simp only [Instr.findNow, ht, Instr.sameNow, ba_ne (Ne.symm hne)]
    exact findNow_str_none l (i + 1) (fun x hx => h x (by simp [hx]))
theorem findNow_str_some {s : ByteArray} : ∀ (l : List MapEntry) (i : Nat), (∀ x ∈ l, ∃ t, x.key = .string t) → (∃ x ∈ l, x.key = .string s) → ∃ j x, Instr.findNow .string (.string s) l i = some (some (j, x.val)) ∧ x ∈ l ∧ x.key = .string s
  | [], _, _, ⟨_, h, _⟩ => by cases h
  | e :: l, i, h, hx => by
    obtain ⟨t, ht⟩ := h e (by simp)
    by_cases hts : t = s
    · subst hts
      exact ⟨i, e, by simp only [Instr.findNow, ht, Instr.sameNow, ba_eq], by simp, ht⟩
    · obtain ⟨x, hxm, hk⟩ := hx
      have hx' : ∃ x ∈ l, x.key = .string s := by
        rcases List.mem_cons.1 hxm with rfl | hm
        · rw [ht] at hk; cases hk; exact absurd rfl hts
        · exact ⟨x, hm, hk⟩
      obtain ⟨j, y, h1, h2, h3⟩ := findNow_str_some l (i + 1) (fun x hx => h x (by simp [hx])) hx'
      exact ⟨j, y, by simp only [Instr.findNow, ht, Instr.sameNow, ba_ne (Ne.symm hts)]; exact h1, by simp [h2], h3⟩
section
variable {P : Program} {t k e : TypeId}
theorem run_check_str' (hk : P.underlying k = some .string) (w : World) (em : Bool) (m : Nat) (s : ByteArray) : (Instr.checkKey em (m + 1) k (.string s)).run P w = .ok () w := by
  simp [Instr.checkKey, run_underlying hk]
theorem run_check_str (hk : P.underlying k = some .string) (w : World) (em : Bool) (s : ByteArray) : (Instr.checkKey em 10000 k (.string s)).run P w = .ok () w := run_check_str' hk w em 9999 s
theorem run_find_str (hk : P.underlying k = some .string) (w : World) (s : ByteArray) (es : List MapEntry) {r : Option (Nat × Value)} (h : Instr.findNow .string (.string s) es 0 = some r) :
    (Instr.findKey k (.string s) es).run P w = .ok r w := by
  simp [Instr.findKey, run_underlying hk, h]
theorem run_insert_str (ht : P.underlying t = some (.map k e)) (hk : P.underlying k = some .string) (w : World) {b : Nat} {es : Array MapEntry} {c : Nat} (hb : w.heap[b]? = some (.map es c)) (s : ByteArray) (v : Value)
    (hf : ∀ x ∈ es.toList, ∃ u, x.key = .string u ∧ u ≠ s) :
    (Instr.mapUpdate t (.map (some b)) (.string s) v).run P w = .ok () (ChangeMaps.setBlock w b (.map (es.push { key := .string s, val := v, born := c }) (c + 1))) := by
  have h1 := findNow_str_none (s := s) es.toList 0 hf
  simp [Instr.mapUpdate, run_underlying ht, MapKept.run_getObj_map hb, run_check_str hk, run_find_str hk _ _ _ h1, MapKept.run_setObj_map _ hb, Result.andThen]
  rfl
theorem run_lookup_str_ok (ht : P.underlying t = some (.map k e)) (hk : P.underlying k = some .string) (w : World) {b : Nat} {es : Array MapEntry} {c : Nat}
    (hb : w.heap[b]? = some (.map es c)) (s : ByteArray) {i : Nat} {v : Value} (h : Instr.findNow .string (.string s) es.toList 0 = some (some (i, v))) (ok : Bool) :
    (Instr.lookup t (.map (some b)) (.string s) ok).run P w = .ok (if ok then .tuple #[v, .bool true] else v) w := by
  simp [Instr.lookup, run_underlying ht, MapKept.run_getObj_map hb, run_check_str hk, run_find_str hk _ _ _ h, Result.andThen]
theorem run_lookup_str_no (ht : P.underlying t = some (.map k e)) (hk : P.underlying k = some .string) (w : World) {b : Nat} {es : Array MapEntry} {c : Nat}
    (hb : w.heap[b]? = some (.map es c)) (s : ByteArray) {z : Value} (hz : (zeroValue e).run P w = .ok z w) (h : Instr.findNow .string (.string s) es.toList 0 = some none) (ok : Bool) :
    (Instr.lookup t (.map (some b)) (.string s) ok).run P w = .ok (if ok then .tuple #[z, .bool false] else z) w := by
  simp [Instr.lookup, run_underlying ht, MapKept.run_getObj_map hb, run_check_str hk, run_find_str hk _ _ _ h, hz, Result.andThen]
end
/-- The entries hold the names of the operations that have been seen, each with its number. -/
structure NamesOf (seen : Array Nat) (es : List MapEntry) : Prop where
  key : ∀ x ∈ es, ∃ k : Nat, k < 53 ∧ k ∈ seen ∧ x.key = .string (opName (k + 1 : Nat)) ∧ x.val = .int .i64 (k + 1 : Nat)
  all : ∀ k : Nat, k < 53 → k ∈ seen → ∃ x ∈ es, x.key = .string (opName (k + 1 : Nat))
theorem NamesOf.push {seen : Array Nat} {es : Array MapEntry} (h : NamesOf seen es.toList) {k c : Nat} (hk : k < 53) : NamesOf (seen.push k) (es.push { key := .string (opName (k + 1 : Nat)), val := .int .i64 (k + 1 : Nat), born := c }).toList := by
  refine ⟨fun x hx => ?_, fun j hj hm => ?_⟩
  · rw [Array.toList_push] at hx
    rcases List.mem_append.1 hx with hx | hx
    · obtain ⟨j, h1, h2, h3⟩ := h.key x hx
      exact ⟨j, h1, Array.mem_push.2 (.inl h2), h3⟩
    · simp at hx
      subst hx
      exact ⟨k, hk, Array.mem_push.2 (.inr rfl), rfl, rfl⟩
  · rw [Array.toList_push]
    rcases Array.mem_push.1 hm with hm | rfl
    · obtain ⟨x, hx, e⟩ := h.all j hj hm
      exact ⟨x, List.mem_append_left _ hx, e⟩
    · exact ⟨_, List.mem_append_right _ (List.mem_singleton.2 rfl), rfl⟩
theorem NamesOf.fresh {seen : Array Nat} {es : List MapEntry} (h : NamesOf seen es) {k : Nat} (hk : k < 53) (hn : k ∉ seen) : ∀ x ∈ es, ∃ u, x.key = .string u ∧ u ≠ opName (k + 1 : Nat) := by
  intro x hx
  obtain ⟨j, h1, h2, h3, _⟩ := h.key x hx
  refine ⟨_, h3, fun e => hn ?_⟩
  have e1 := opNum_hit (opName (k + 1 : Nat)) j h1 e
  have e2 := opNum_hit (opName (k + 1 : Nat)) k hk rfl
  rw [e1] at e2
  have : j = k := by omega
  exact this ▸ h2
theorem opsMap_of {seen : Array Nat} {es : Array MapEntry} (h : NamesOf seen es.toList) (hall : ∀ k : Nat, k < 53 → k ∈ seen) (c : Nat) : OpsMap (.map es c) := by
  intro w b hb s
  have hks : ∀ x ∈ es.toList, ∃ t, x.key = .string t := fun x hx => by obtain ⟨k, _, _, e, _⟩ := h.key x hx; exact ⟨_, e⟩
  by_cases hx : ∃ x ∈ es.toList, x.key = .string s
  · obtain ⟨j, x, h1, h2, h3⟩ := findNow_str_some es.toList 0 hks hx
    obtain ⟨k, hk, _, h4, h5⟩ := h.key x h2
    rw [h3] at h4
    cases h4
    rw [opNum_hit _ k hk rfl, run_lookup_str_ok Tryz.underlying118 Tryz.underlying9 w hb _ h1 true, h5]
    have : (((k + 1 : Nat) : Int) != 0) = true := by simp; omega
    rw [this]
    rfl
  · have hno : ∀ k : Nat, k < 53 → opName (k + 1 : Nat) ≠ s := fun k hk e => by
      obtain ⟨x, hx', e'⟩ := h.all k hk (hall k hk)
      exact hx ⟨x, hx', by rw [e', e]⟩
    have h0 := opNum_miss s hno
    have h1 := findNow_str_none (s := s) es.toList 0 fun x hx' => by
      obtain ⟨t, e⟩ := hks x hx'
      exact ⟨t, e, fun e' => hx ⟨x, hx', by rw [e, e']⟩⟩
    rw [h0, run_lookup_str_no Tryz.underlying118 Tryz.underlying9 w hb s (Tryz.zeroValue3 w) h1 true]
    rfl
end Go.Proofs.YtmfnholhhakgaaaGreatDoor
end
section
namespace Go.Proofs.YtmfnholhhakgaaaGreatDoor
open Go Go.Proofs
variable {F : Fence} {n : Nat} {P : Program}

/-- What is asked at a round's end, a panic taken in: it leaves the round's frame, which has deferred nothing. -/
def roundPostP (P : Program) (l : Nat) (f : FuncId) (R : Ending → World → Prop) : Exit → Act → World → Prop
  | .panic chain, a, w => a.defers = [] ∧ (∃ fn, P.funcs[f]? = some fn) ∧ R (.panicked chain) w
  | e, a, w => roundPost P l R e a w

/-- One round, out of its body's walk; the body may panic. -/
theorem roundIn_of_wpIn_panic {l : Nat} {f : FuncId} {tmps : Array Value} {assign body : Code} {w : World} {R : Ending → World → Prop} (hF : F.fn f)
    (h : assign.wpIn (F.inRound l) n P (Exit.then (fun a₁ w₁ => ∃ w₂, (Instr.beginRound l).run P w₁ = .ok () w₂ ∧ body.wpIn (F.inRound l) n P (roundPostP P l f R) a₁ w₂) (fun _ _ _ => False))
      { tmps := tmps, defers := [] } w) :
    RoundIn F n P l f tmps assign body w R := by
  refine ⟨hF, fun c cs hr => ?_⟩
  let b : Frame := { (default : Frame) with fn := f, kind := .normal, roundOf := some l }
  have hb0 : Frame.round l f tmps assign body .normal = b.atR { tmps := tmps, defers := [] } [.code assign, .beginRound, .code body] := by
    simp [Frame.round, Frame.atR, b]
  have hr' : (F.inRound l).room ((c :: cs).length + 1 + n) := hr
  have hF' : (F.inRound l).fn b.fn := hF
  obtain ⟨e, a₁, w₁, hq, harr⟩ := h b [.beginRound, .code body] (c :: cs) rfl hF' hr'
  rw [← hb0] at harr
  cases e with
  | normal =>
    obtain ⟨w₂, hbr, hbody⟩ := hq
    have s1 : StepsIn (Machine.fenced P (F.inRound l)) P (lone (b.atR a₁ [.beginRound, .code body]) (c :: cs) w₁) (lone (b.atR a₁ [.code body]) (c :: cs) w₂) :=
      .one (fenced_calm (fr := b.atR a₁ [.beginRound, .code body]) hF' hr' rfl) (stepR_beginRound rfl hbr)
    obtain ⟨e₂, a₂, w₃, hq₂, harr₂⟩ := hbody b [] (c :: cs) rfl hF' hr'
    cases e₂ with
    | normal =>
      obtain ⟨v, w₄, hend, hR⟩ := hq₂
      exact ⟨.returned v, w₄, hR, (StepsIn.trans harr s1).trans (StepsIn.trans harr₂ (.one (fenced_calm (fr := b.atR a₂ []) hF' hr' rfl) (stepR_round_end rfl rfl hend)))⟩
    | ret =>
      obtain ⟨v, w₄, hend, hR⟩ := hq₂
      obtain ⟨k₁, hs⟩ := harr₂.2 rfl
      exact ⟨.returned v, w₄, hR, (StepsIn.trans harr s1).trans (StepsIn.trans hs (.one (fenced_calm (fr := b.atR a₂ (.code .ret :: k₁)) hF' hr' rfl) (stepR_round_ret rfl rfl hend)))⟩
    | exit id =>
      obtain ⟨v, w₄, hend, hR⟩ := hq₂
      obtain ⟨k₁, hk, hs⟩ := harr₂.2 rfl rfl
      exact ⟨.returned v, w₄, hR, (StepsIn.trans harr s1).trans (StepsIn.trans hs (.one (fenced_calm (fr := b.atR a₂ (.code (.exit id) :: k₁)) hF' hr' rfl) (stepR_round_exit rfl rfl hk hend)))⟩
    | goto t =>
      obtain ⟨v, w₄, hend, hR⟩ := hq₂
      obtain ⟨k₁, hk, hs⟩ := harr₂.2 rfl rfl
      exact ⟨.returned v, w₄, hR, (StepsIn.trans harr s1).trans (StepsIn.trans hs (.one (fenced_calm (fr := b.atR a₂ (.code (.goto t) :: k₁)) hF' hr' rfl) (stepR_round_goto rfl rfl hk hend)))⟩
    | panic chain =>
      obtain ⟨hd, hfn, hR⟩ := hq₂
      obtain ⟨k₁, hs⟩ := harr₂
      have hleave : ({ b.atR a₂ k₁ with mode := .panicking chain } : Frame).leaving P w₃ (.panicked chain) := ⟨rfl, hd, hfn⟩
      have hl : (lone { b.atR a₂ k₁ with mode := .panicking chain } (c :: cs) w₃).fenced P (F.inRound l) := fenced_leaving hF' hr' hleave
      exact ⟨.panicked chain, w₃, hR, (StepsIn.trans harr s1).trans (StepsIn.trans hs (.one hl (step_leave_panicked hleave)))⟩
    | outgrown => exact hq₂.elim
  | exit id => exact hq.elim
  | goto t => exact hq.elim
  | ret => exact hq.elim
  | panic chain => exact hq.elim
  | outgrown => exact hq.elim
end Go.Proofs.YtmfnholhhakgaaaGreatDoor
end
section
namespace Go.Proofs.YtmfnholhhakgaaaGreatDoor
open Go Go.Proofs Go.RowKit Go.Sort

theorem op_add1 {o : Oper} {a : Act} {w : World} {K : Act → World → Prop} {Q : Exit → Act → World → Prop} {x : Nat} {n : Int} (ho : o.op = .binOp .add 3 (.tmp x) (.const (.int .i64 1)) 3) (hx : a.tmps.getD x undef = .int .i64 n) (h0 : -1 ≤ n) (h1 : n ≤ 1000000000000) (h : K (a.put o.dst (.int .i64 (n + 1))) w) : o.wp Tryz.prog a w K Q := by
  have hx' : a.tmps[x]?.getD undef = .int .i64 n := by simpa using hx
  have hw : IntKind.i64.wrap (n + 1) = n + 1 := IntWalk.i64_in _ (by omega)
  unfold Oper.wp
  simp [execOp, ho, hx', go_sem, hw]
  exact h
theorem op_sliceTo {o : Oper} {a : Act} {w : World} {K : Act → World → Prop} {Q : Exit → Act → World → Prop} {x y : Nat} {s : ByteArray} {n : Int} (ho : o.op = .slice 9 (.tmp x) none (some (.tmp y)) none) (hx : a.tmps.getD x undef = .string s) (hy : a.tmps.getD y undef = .int .i64 n) (h0 : 0 ≤ n) (h1 : n ≤ s.size) (h : K (a.put o.dst (.string (s.extract 0 n.toNat))) w) : o.wp Tryz.prog a w K Q := by
  have hx' : a.tmps[x]?.getD undef = .string s := by simpa using hx
  have hy' : a.tmps[y]?.getD undef = .int .i64 n := by simpa using hy
  have hu := Tryz.underlying9
  unfold Oper.wp
  simp [execOp, ho, hx', hy', go_sem, hu, h0, h1]
  exact h
theorem op_sliceFrom {o : Oper} {a : Act} {w : World} {K : Act → World → Prop} {Q : Exit → Act → World → Prop} {x y : Nat} {s : ByteArray} {n : Int} (ho : o.op = .slice 9 (.tmp x) (some (.tmp y)) none none) (hx : a.tmps.getD x undef = .string s) (hy : a.tmps.getD y undef = .int .i64 n) (h0 : 0 ≤ n) (h1 : n ≤ s.size) (h : K (a.put o.dst (.string (s.extract n.toNat s.size))) w) : o.wp Tryz.prog a w K Q := by
  have hx' : a.tmps[x]?.getD undef = .string s := by simpa using hx
  have hy' : a.tmps[y]?.getD undef = .int .i64 n := by simpa using hy
  have hu := Tryz.underlying9
  unfold Oper.wp
  simp [execOp, ho, hx', hy', go_sem, hu, h0, h1]
  exact h
theorem op_put9 {o : Oper} {a : Act} {w : World} {K : Act → World → Prop} {Q : Exit → Act → World → Prop} {x y O j : Nat} {s : ByteArray} {v0 : Value} (ho : o.op = .store 9 (.tmp x) (.tmp y)) (hx : a.tmps.getD x undef = .pointer (some ⟨O, j, none⟩)) (hy : a.tmps.getD y undef = .string s) (hc : w.cell? ⟨O, j, none⟩ = some v0) (hf : w.frozen? ⟨O, j, none⟩ = false) (h : K (a.put o.dst undef) (w.setCell ⟨O, j, none⟩ (.string s))) : o.wp Tryz.prog a w K Q := by
  simp only [Array.getD_eq_getD_getElem?] at hx hy
  have hu := Tryz.underlying9
  have hsz := Tryz.sizeOf9
  have ha := Tryz.isAgg9
  unfold Oper.wp
  simp [execOp, ho, hx, hy, go_sem, hsz, hc, hf]
  exact h
/-- Where the first line of a text ends; -1 if it has no end. -/
def nlAt (s : ByteArray) : Int := Lib.indexByte s.data.toList 10
/-- The rows of a text, with their ends. -/
def rowsF : Nat → ByteArray → List ByteArray
  | 0, _ => []
  | n + 1, s => if s.size = 0 then [] else if 0 ≤ nlAt s then s.extract 0 (nlAt s + 1).toNat :: rowsF n (s.extract (nlAt s + 1).toNat s.size) else [s]
def rowsOf (s : ByteArray) : List ByteArray := rowsF s.size s
theorem nlAt_lt (s : ByteArray) : nlAt s < s.size := by
  have hg := Lib.indexByte_ge s.data.toList 10
  unfold nlAt
  by_cases h0 : 0 ≤ Lib.indexByte s.data.toList 10
  · obtain ⟨o, ho⟩ : ∃ o : Nat, Lib.indexByte s.data.toList 10 = o := ⟨(Lib.indexByte s.data.toList 10).toNat, by omega⟩
    have h1 := (Lib.indexByte_some ho).1
    have h2 := (List.getElem?_eq_some_iff.1 h1).1
    have e : s.data.toList.length = s.size := rfl
    omega
  · omega
theorem rowsF_more : ∀ (n : Nat) (s : ByteArray), s.size ≤ n → rowsF n s = rowsOf s := by
  intro n
  induction n using Nat.strongRecOn with
  | ind n ih =>
    intro s hs
    unfold rowsOf
    by_cases h0 : s.size = 0
    · rw [h0]
      cases n with
      | zero => rfl
      | succ n =>
        show rowsF (n + 1) s = []
        unfold rowsF
        rw [if_pos h0]
    · obtain ⟨m, rfl⟩ : ∃ m, n = m + 1 := ⟨n - 1, by omega⟩
      obtain ⟨k, hk⟩ : ∃ k, s.size = k + 1 := ⟨s.size - 1, by omega⟩
      rw [hk, rowsF, if_neg h0, rowsF, if_neg h0]
      by_cases h1 : 0 ≤ nlAt s
      · rw [if_pos h1, if_pos h1]
        have h2 := nlAt_lt s
        have h3 : (s.extract (nlAt s + 1).toNat s.size).size ≤ k := by simp; omega
        rw [ih m (by omega) _ (by omega)]
        by_cases hkm : k < m + 1
        · rw [ih k hkm _ h3]
        · omega
      · rw [if_neg h1, if_neg h1]
theorem rowsOf_nil {s : ByteArray} (h : s.size = 0) : rowsOf s = [] := by unfold rowsOf; rw [h]; rfl
theorem rowsOf_cons {s : ByteArray} (h : s.size ≠ 0) (h1 : 0 ≤ nlAt s) : rowsOf s = s.extract 0 (nlAt s + 1).toNat :: rowsOf (s.extract (nlAt s + 1).toNat s.size) := by
  obtain ⟨k, hk⟩ : ∃ k, s.size = k + 1 := ⟨s.size - 1, by omega⟩
  have h2 := nlAt_lt s
  conv => lhs; unfold rowsOf; rw [hk, rowsF, if_neg h, if_pos h1]
  rw [rowsF_more k _ (by simp; omega)]
theorem rowsOf_last {s : ByteArray} (h : s.size ≠ 0) (h1 : ¬ 0 ≤ nlAt s) : rowsOf s = [s] := by
  obtain ⟨k, hk⟩ : ∃ k, s.size = k + 1 := ⟨s.size - 1, by omega⟩
  unfold rowsOf
  rw [hk, rowsF, if_neg h, if_neg h1]

/-- How long the string in the box still is. -/
def strLeft (Sb : Nat) (w : World) : Nat := match w.cell? ⟨Sb, 0, none⟩ with
  | some (.string t) => t.size
  | _ => 0
theorem strLeft_eq {Sb : Nat} {w : World} {t : ByteArray} (h : w.heap[Sb]? = some (.cells #[.string t] 9 (0, 0))) : strLeft Sb w = t.size := by
  unfold strLeft
  rw [cell_of_row w Sb 0 _ 9 (0, 0) h]
  rfl
def P4L (_Sb : Nat) (t : ByteArray) (i : Nat) (v : Value) (_ : World) : Prop :=
  match i with
  | 0 | 4 => v = .string t
  | 1 | 5 => v = .int .i64 (nlAt t)
  | 2 | 6 => v = .int .i64 (nlAt t + 1)
  | 3 | 8 => v = .string (t.extract 0 (nlAt t + 1).toNat)
  | 7 => v = .string (t.extract (nlAt t + 1).toNat t.size)
  | _ => True
set_option maxRecDepth 100000
set_option maxHeartbeats 4000000 in
/-- strings.Lines' iterator: whatever J the caller keeps between rounds, at the rows that are still to come; a round may panic. -/
theorem linesIt_any (l Sb m : Nat) (s : ByteArray) (w : World) (hs : s.size ≤ 1000000000) (hc : w.heap[Sb]? = some (.cells #[.string s] 9 (0, 0))) (J : List ByteArray → World → Prop) (Jp : List PanicEntry → World → Prop)
    (hset : ∀ r W t t', J r W → W.heap[Sb]? = some (.cells #[.string t] 9 (0, 0)) → J r (W.setCell ⟨Sb, 0, none⟩ (.string t')))
    (hdrew : ∀ r W, J r W → J r W.drew)
    (hY : ∀ row r W, J (row :: r) W → Sb < W.heap.size → YieldAt Fence.wide m Tryz.prog l #[.string row] W fun e W' => (e = .returned (.bool true) ∧ J r W' ∧ W'.heap[Sb]? = W.heap[Sb]?) ∨ ∃ ch, e = .panicked ch ∧ Jp ch W')
    (h0 : J (rowsOf s) w) :
    Calls Tryz.prog 123 (#[.func (.yield l) #[] #[]] ++ #[.pointer (some ⟨Sb, 0, none⟩)]) w fun e w' => (∃ v, e = .returned v ∧ J [] w') ∨ ∃ ch, e = .panicked ch ∧ Jp ch w' := by
  have HY := Lib.hid hY
  have HSET := Lib.hid hset
  have HDREW := Lib.hid hdrew
  clear hY hset hdrew
  refine (callsIn_wide (n := m + 1)).1 ?_
  refine callsIn_of_wp Tryz.func123 rfl trivial ?_ rfl
  simp only [Tryz.ntmps123, List.size_toArray, List.length_cons, List.length_nil, Nat.reduceAdd, Nat.reduceSub, Array.replicate_succ, Array.replicate_zero, List.push_toArray, List.append_toArray, List.nil_append, List.cons_append]
  gi_wp2
  gi_loopw [3, 4] (fun _ _ wr => ∃ t : ByteArray, t.size ≤ 1000000000 ∧ wr.heap[Sb]? = some (.cells #[.string t] 9 (0, 0)) ∧ J (rowsOf t) wr) (fun _ _ wr => strLeft Sb wr)
  case atStart => exact ⟨s, hs, hc, h0⟩
  case round =>
    obtain ⟨t, ht, hb, hJ⟩ := hrel
    have HB := Lib.hid hb
    have hcell := cell_of_row wr Sb 0 _ 9 (0, 0) hb
    clear hb
    by_cases hz : t.size = 0
    · have HJ : J [] wr := by rw [← rowsOf_nil hz]; exact hJ
      have hz1 : ¬ (0 : Int) < (t.size : Nat) := by omega
      clear hz hJ
      have HJ' := Lib.hid HJ
      clear HJ
      gi_wp2
      go_end0
      exact .inl ⟨⟨_, rfl⟩, HJ'.out⟩
    · have HZ := Lib.hid hz
      have hz1 : 0 < t.size := by omega
      clear hz
      have hlt := nlAt_lt t
      by_cases hn : 0 ≤ nlAt t
      · have HR : Hid (J (t.extract 0 (nlAt t + 1).toNat :: rowsOf (t.extract (nlAt t + 1).toNat t.size)) wr) := Lib.hid (by rw [← rowsOf_cons HZ.out hn]; exact hJ)
        clear hJ
        gi_wp2_with (refine ⟨trivial, ?_⟩; gi_at_call 124; refine callsIn_wide.2 ((Tryz.strings_IndexByte t 10 _).mono ?_); rintro e w1 ⟨rfl, rfl⟩; rw [show Lib.indexByte t.data.toList (Int.toNat 10).toUInt8 = nlAt t from rfl])
        refine wpIn_wide.2 ?_
        refine wp_region_list2 (by kernel_rfl) (by kernel_rfl) (fun _ w' => w' = w1.drew) (fun _ _ _ => True) (P4L Sb t) rfl (fun _ _ _ _ _ _ hp _ => hp) ?_ ?_
        · refine ⟨?_, ?_, ?_, ?_, ?_, ?_, ?_, ?_, ?_, trivial⟩
          · intro a' u listed hls hl0 hg hdp hs
            subst hg
            exact op_loadA9 rfl ((hs.2.2 1 (notDst2 (by kernel_rfl))).trans rfl) (cell_of_row w1.drew Sb 0 _ 9 (0, 0) HB.out) ⟨_, rfl, rfl, trivial, fun h => (by cases h), rfl⟩
          · intro a' u listed hls hl0 hg hdp hs
            subst hg
            exact op_move rfl ((hs.2.2 4 (notDst2 (by kernel_rfl))).trans rfl) ⟨_, rfl, rfl, trivial, fun h => (by cases h), rfl⟩
          · intro a' u listed hls hl0 hg hdp hs
            subst hg
            exact op_add1 rfl (hdp 1 (by kernel_rfl)) (by omega) (by omega) ⟨_, rfl, rfl, trivial, fun h => (by cases h), rfl⟩
          · intro a' u listed hls hl0 hg hdp hs
            subst hg
            exact op_sliceTo rfl (hdp 0 (by kernel_rfl)) (hdp 2 (by kernel_rfl)) (by omega) (by omega) ⟨_, rfl, rfl, trivial, fun h => (by cases h), rfl⟩
          · intro a' u listed hls hl0 hg hdp hs
            subst hg
            exact op_loadA9 rfl ((hs.2.2 1 (notDst2 (by kernel_rfl))).trans rfl) (cell_of_row w1.drew Sb 0 _ 9 (0, 0) HB.out) ⟨_, rfl, rfl, trivial, fun h => (by cases h), rfl⟩
          · intro a' u listed hls hl0 hg hdp hs
            subst hg
            exact op_move rfl ((hs.2.2 4 (notDst2 (by kernel_rfl))).trans rfl) ⟨_, rfl, rfl, trivial, fun h => (by cases h), rfl⟩
          · intro a' u listed hls hl0 hg hdp hs
            subst hg
            exact op_add1 rfl (hdp 5 (by kernel_rfl)) (by omega) (by omega) ⟨_, rfl, rfl, trivial, fun h => (by cases h), rfl⟩
          · intro a' u listed hls hl0 hg hdp hs
            subst hg
            exact op_sliceFrom rfl (hdp 4 (by kernel_rfl)) (hdp 6 (by kernel_rfl)) (by omega) (by omega) ⟨_, rfl, rfl, trivial, fun h => (by cases h), rfl⟩
          · intro a' u listed hls hl0 hg hdp hs
            subst hg
            exact op_assign rfl (hdp 3 (by kernel_rfl)) ⟨_, rfl, rfl, trivial, fun h => (by cases h), rfl⟩
        · intro o ho' a' u listed hg hp hs
          obtain rfl := Option.some.inj ho'
          subst hg
          have p8 := hp 8 (by decide)
          have p7 := hp 7 (by decide)
          refine op_put9 rfl ((hs.2.2 1 (notDst2 (by kernel_rfl))).trans rfl) p7 (cell_of_row w1.drew Sb 0 _ 9 (0, 0) HB.out) (frozen_row HB.out) ?_
          have ha := act_all hs [12, 13, 14, 15, 16, 17, 18, 19, 3] (by kernel_rfl) (by kernel_rfl)
          simp only [List.map_cons, List.map_nil] at ha
          change a'.tmps.getD 3 undef = _ at p8
          rw [p8] at ha
          generalize a'.tmps.getD 12 undef = t12 at ha
          generalize a'.tmps.getD 13 undef = t13 at ha
          generalize a'.tmps.getD 14 undef = t14 at ha
          generalize a'.tmps.getD 15 undef = t15 at ha
          generalize a'.tmps.getD 16 undef = t16 at ha
          generalize a'.tmps.getD 17 undef = t17 at ha
          generalize a'.tmps.getD 18 undef = t18 at ha
          generalize a'.tmps.getD 19 undef = t19 at ha
          clear hp p7 p8
          change Exit.then _ _ .normal a' _
          rw [ha]
          simp only [List.foldl_cons, List.foldl_nil, Act.put, List.setIfInBounds_toArray, List.set_cons_succ, List.set_cons_zero]
          clear ha hs
          have HJ5 := HSET.out _ w1.drew t (t.extract (nlAt t + 1).toNat t.size) (HDREW.out _ w1 HR.out) HB.out
          have HB5 : (w1.drew.setCell ⟨Sb, 0, none⟩ (.string (t.extract (nlAt t + 1).toNat t.size))).heap[Sb]? = some (.cells #[.string (t.extract (nlAt t + 1).toNat t.size)] 9 (0, 0)) := heap_setCell_at HB.out _
          have hsz : (t.extract (nlAt t + 1).toNat t.size).size < t.size := by simp; omega
          obtain ⟨fn, tmps, assign, body, hy, hR⟩ := HY.out _ _ _ HJ5 (Array.getElem?_eq_some_iff.1 HB5).1
          have HRR := Lib.hid hR
          have HBB := Lib.hid HB5
          clear hR HJ5 HB5
          generalize w1.drew.setCell ⟨Sb, 0, none⟩ (.string (t.extract (nlAt t + 1).toNat t.size)) = W5 at HRR HBB hy ⊢
          generalize t.extract 0 (nlAt t + 1).toNat = row at HRR hy ⊢
          generalize t.extract (nlAt t + 1).toNat t.size = t2 at HRR HBB hsz ⊢
          gi_wp2
          refine HRR.out.mono ?_
          rintro e W3 (⟨rfl, hJ3, hg3⟩ | ⟨ch, rfl, hJp⟩)
          · have HB3 := Lib.hid (hg3.trans HBB.out)
            have HJ3 := Lib.hid hJ3
            clear hg3 hJ3 HRR hy
            gi_wp2
            go_roundw
            case rel => exact ⟨t2, by omega, HB3.out, HJ3.out⟩
            case measure => rw [strLeft_eq HB3.out, strLeft_eq HB.out]; exact hsz
          · exact ⟨rfl, .inr ⟨ch, rfl, hJp⟩⟩
      · have HR : Hid (J (t :: []) wr) := Lib.hid (by rw [← rowsOf_last HZ.out hn]; exact hJ)
        have hfz := frozen_row (j := 0) HB.out
        clear hJ
        have HJ5 := HSET.out _ wr t ⟨#[]⟩ HR.out HB.out
        have HB5 : (wr.setCell ⟨Sb, 0, none⟩ (.string ⟨#[]⟩)).heap[Sb]? = some (.cells #[.string ⟨#[]⟩] 9 (0, 0)) := heap_setCell_at HB.out _
        obtain ⟨fn, tmps, assign, body, hy, hR⟩ := HY.out _ _ _ HJ5 (Array.getElem?_eq_some_iff.1 HB5).1
        have HRR := Lib.hid hR
        have HBB := Lib.hid HB5
        clear hR HJ5 HB5
        gi_wp2_with (refine ⟨trivial, ?_⟩; gi_at_call 124; refine callsIn_wide.2 ((Tryz.strings_IndexByte t 10 _).mono ?_); rintro e w1 ⟨rfl, rfl⟩; rw [show Lib.indexByte t.data.toList (Int.toNat 10).toUInt8 = nlAt t from rfl])
        refine HRR.out.mono ?_
        rintro e W3 (⟨rfl, hJ3, hg3⟩ | ⟨ch, rfl, hJp⟩)
        · have HB3 := Lib.hid (hg3.trans HBB.out)
          have HJ3 := Lib.hid hJ3
          clear hg3 hJ3 HRR hy
          gi_wp2
          go_roundw
          case rel => exact ⟨⟨#[]⟩, by decide, HB3.out, HJ3.out⟩
          case measure => rw [strLeft_eq HB3.out, strLeft_eq HB.out]; exact hz1
        · exact ⟨rfl, .inr ⟨ch, rfl, hJp⟩⟩
end Go.Proofs.YtmfnholhhakgaaaGreatDoor
end
