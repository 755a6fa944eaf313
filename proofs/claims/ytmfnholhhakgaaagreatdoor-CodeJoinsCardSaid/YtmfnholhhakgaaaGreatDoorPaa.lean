/- strconv.Atoi at every string, and code.number. -/
import Derived.Test.YtmfnholhhakgaaaGreatDoorMhm
import Derived.Shelf.Strconv.ErrVarAll
import Derived.WalkLawsBesides
namespace Go.Proofs.YtmfnholhhakgaaaGreatDoor
open Go Go.Proofs Go.RowKit Go.Sort
theorem laysM172 : Go.Proofs.LaysM.n172 Tryz.prog Tryz.lays172_ren := { Tryz.lays172 with
  t80 := Tryz.underlying159
  a80 := Tryz.isAgg159
  z80 := Tryz.sizeOf159
  v80 := Tryz.zeroValue159
  i0 := by kernel_rfl
  i2 := by kernel_rfl
  i3 := by kernel_rfl
  i4 := by kernel_rfl
  i5 := by kernel_rfl
  i9 := by kernel_rfl
  i20 := by kernel_rfl
  i21 := by kernel_rfl
  i37 := by kernel_rfl
  i46 := by kernel_rfl
  i51 := by kernel_rfl
  i53 := by kernel_rfl
  i75 := by kernel_rfl
  i76 := by kernel_rfl
  i80 := by kernel_rfl
  i85 := by kernel_rfl
  i127 := by kernel_rfl
  i143 := by kernel_rfl
  i145 := by kernel_rfl
  i167 := by kernel_rfl
  i168 := by kernel_rfl
  i171 := by kernel_rfl
  i173 := by kernel_rfl
  i175 := by kernel_rfl
  i210 := by kernel_rfl
  i212 := by kernel_rfl
  i232 := by kernel_rfl
  i233 := by kernel_rfl
  m15 := by kernel_rfl
  m16 := by kernel_rfl
  m17 := by kernel_rfl
  m18 := by kernel_rfl
  m19 := by kernel_rfl }
theorem laysC172 : Go.Proofs.LaysC.n172 Tryz.prog Tryz.lays172_ren := { laysM172 with
  c0 := by kernel_rfl
  c2 := by kernel_rfl
  c3 := by kernel_rfl
  c4 := by kernel_rfl
  c5 := by kernel_rfl
  c9 := by kernel_rfl
  c20 := by kernel_rfl
  c21 := by kernel_rfl
  c37 := by kernel_rfl
  c46 := by kernel_rfl
  c51 := by kernel_rfl
  c53 := by kernel_rfl
  c75 := by kernel_rfl
  c76 := by kernel_rfl
  c80 := by kernel_rfl
  c85 := by kernel_rfl
  c127 := by kernel_rfl
  c143 := by kernel_rfl
  c145 := by kernel_rfl
  c167 := by kernel_rfl
  c168 := by kernel_rfl
  c171 := by kernel_rfl
  c173 := by kernel_rfl
  c175 := by kernel_rfl
  c210 := by kernel_rfl
  c212 := by kernel_rfl
  c213 := by kernel_rfl
  c232 := by kernel_rfl
  c233 := by kernel_rfl }

/-- What stands in the variables that the library reads, whatever has been made since. -/
structure Vars (B : Nat) (w : World) : Prop where
  pow : Pow B w
  syn : ∃ te pe, w.cell? ⟨4, 0, none⟩ = some (.iface te pe)
  rng : ∃ te pe, w.cell? ⟨5, 0, none⟩ = some (.iface te pe)
  idx : ∃ m, w.cell? ⟨0, 0, none⟩ = some (.int .i64 m)
  lt : 8 ≤ B
theorem Vars.later {B : Nat} {w w' : World} (h : Vars B w) (hb : Below B w w') : Vars B w' :=
  have hl := h.lt
  ⟨h.pow.later hb, by obtain ⟨a, b, e⟩ := h.syn; exact ⟨a, b, (hb.cell (p := ⟨4, 0, none⟩) (by show 4 < B; omega)).trans e⟩, by obtain ⟨a, b, e⟩ := h.rng; exact ⟨a, b, (hb.cell (p := ⟨5, 0, none⟩) (by show 5 < B; omega)).trans e⟩, by obtain ⟨m, e⟩ := h.idx; exact ⟨m, (hb.cell (p := ⟨0, 0, none⟩) (by show 0 < B; omega)).trans e⟩, hl⟩
theorem Vars.at {B : Nat} {w w' : World} (h : Vars B w) (hb : Below B w w') (hB : B ≤ w'.heap.size) : Vars w'.heap.size w' :=
  have h' := h.later hb
  ⟨h.pow.at hb hB, h'.syn, h'.rng, h'.idx, Nat.le_trans h.lt hB⟩

def IsErr (v : Value) : Prop := ∃ te pe, v = .iface te pe
theorem atoi_ok (s : ByteArray) (v : Int) (hs : s.size ≤ 281474976710656) (h : Lib.atoiAll s.data.toList = .ok v) (w : World) :
    Calls Tryz.prog 199 #[.string s] w fun e w' => e = .returned (.tuple #[.int .i64 v, .nilIface]) ∧ Below w.heap.size w w' :=
  (Any.strconv_Atoi_ok laysC172 s (by omega) v h w).mono fun e w' ⟨he, hw⟩ => ⟨he, by
    rcases hw with rfl | ⟨t, rfl⟩
    · exact Below.refl _ _
    · exact Lib.bytesWorld_below _ _ _⟩
theorem atoi_bad (s : ByteArray) (hs : s.size ≤ 281474976710656) (h : ∀ v, Lib.atoiAll s.data.toList ≠ .ok v) (w : World) (B : Nat) (hv : Vars B w) :
    Calls Tryz.prog 199 #[.string s] w fun e w' => ∃ (n : Int) (ev : Value), e = .returned (.tuple #[.int .i64 n, ev]) ∧ IsErr ev ∧ Below w.heap.size w w' := by
  rcases hA : Lib.atoiAll s.data.toList with v | _ | _
  · exact absurd hA (h v)
  · obtain ⟨te, pe, hc⟩ := hv.syn
    exact (Any.strconv_Atoi_syntax laysC172 s hs hA _ w hc (Or.inr ⟨te, pe, rfl⟩)).mono fun e w' ⟨N, he, _, _, hb⟩ => ⟨_, _, he, ⟨_, _, rfl⟩, hb⟩
  · obtain ⟨te, pe, hc⟩ := hv.rng
    exact (Any.strconv_Atoi_range laysC172 s hs hA _ w hc (Or.inr ⟨te, pe, rfl⟩)).mono fun e w' ⟨N, he, _, _, hb⟩ => ⟨_, _, he, ⟨_, _, rfl⟩, hb⟩

/-- The panic of a line that does not fit. -/
def badP : Ending := .panicked [{ v := .iface 122 (.agg #[]), recovered := false }]
/-- The number that a word writes. -/
def numD (s : ByteArray) : Option Int := match Lib.atoiAll s.data.toList with
  | .ok v => if itS v = s ∧ (Lib.trimPrefix s.data.toList [45]).length ≤ 15 then some v else none
  | _ => none
theorem numD_ok {s : ByteArray} {v : Int} (h : numD s = some v) : Lib.atoiAll s.data.toList = .ok v ∧ itS v = s ∧ (Lib.trimPrefix s.data.toList [45]).length ≤ 15 := by
  unfold numD at h
  split at h
  · rename_i u hu
    split at h
    · rename_i hc
      cases h
      exact ⟨hu, hc.1, hc.2⟩
    · cases h
  · cases h
theorem numD_bad {s : ByteArray} (h : numD s = none) : (∀ v, Lib.atoiAll s.data.toList ≠ .ok v) ∨ (∃ v, Lib.atoiAll s.data.toList = .ok v ∧ itS v ≠ s) ∨ (∃ v, Lib.atoiAll s.data.toList = .ok v ∧ itS v = s ∧ 15 < (Lib.trimPrefix s.data.toList [45]).length) := by
  unfold numD at h
  split at h
  · rename_i u hu
    split at h
    · cases h
    · rename_i hc
      by_cases h1 : itS u = s
      · exact .inr (.inr ⟨u, hu, h1, by simpa [h1] using hc⟩)
      · exact .inr (.inl ⟨u, hu, h1⟩)
  · rename_i hu
    exact .inl fun v hv => hu v hv
theorem atoi_i64 {l : List UInt8} {v : Int} (h : Lib.atoiAll l = .ok v) : I64 v := by
  unfold Lib.atoiAll at h
  cases l with
  | nil => cases h
  | cons c r =>
    simp only at h
    split at h
    · cases h
    · cases h
    · rename_i u hu
      split at h
      · cases h
      · split at h
        · cases h
        · rename_i h1 h2
          cases h
          unfold I64
          split <;> omega
set_option maxHeartbeats 1000000 in
theorem number_ok (s : ByteArray) (v : Int) (hs : s.size ≤ 281474976710656) (h : numD s = some v) (B : Nat) (w : World) (hv : Vars B w) (hB : B ≤ w.heap.size) :
    Calls Tryz.prog 156 #[.string s] w fun e w' => e = .returned (.int .i64 v) ∧ Below w.heap.size w w' := by
  obtain ⟨h1, h2, h3⟩ := numD_ok h
  have hi : I64 v := atoi_i64 h1
  have HA := Lib.hid h1
  have HV := Lib.hid hv
  have HS := Lib.hid h2
  have hsz : (Lib.trimPrefix s.data.toList [45]).toArray.size ≤ 15 := by simpa using h3
  clear h h1 hv h3 h2
  go_enter Tryz.func156, Tryz.ntmps156
  go_wp2_with (first
    | (go_at_call 199; refine (atoi_ok s v hs HA.out _).mono ?_; rintro e w1 ⟨rfl, hb1⟩; have B1 := Lib.hid hb1; clear hb1)
    | (go_at_call 144; refine (itoa_any v hi B _ (Nat.le_trans hB B1.out.size) (HV.out.pow.later (B1.out.mono hB))).mono ?_; rintro e w2 ⟨rfl, hb2⟩; have B2 := Lib.hid (B1.out.trans (hb2.mono B1.out.size)); clear hb2; rw [HS.out])
    | (go_at_call 200; refine (Tryz.strings_TrimPrefix s ⟨#[45]⟩ _).mono ?_; rintro e w3 ⟨rfl, rfl⟩))
  · exfalso
    have hx : (15 : Int) < (Lib.trimPrefix s.data.toList [45]).length := by assumption
    simp at hsz
    omega
  · go_ret
    exact ⟨rfl, B2.out⟩
theorem toList_ne {a b : ByteArray} (h : a ≠ b) : ¬ a.toList = b.toList := by
  rw [ByteArray.toList_eq, ByteArray.toList_eq]
  intro e
  exact h (ByteArray.ext (Array.toList_inj.1 e))
/-- The ending is the panic; nothing that lay below has turned. -/
def BadPost (w : World) (e : Ending) (w' : World) : Prop := e = badP ∧ Below w.heap.size w w'
set_option maxHeartbeats 1000000 in
theorem number_bad (s : ByteArray) (hs : s.size ≤ 281474976710656) (h : numD s = none) (B : Nat) (w : World) (hv : Vars B w) (hB : B ≤ w.heap.size) :
    Calls Tryz.prog 156 #[.string s] w (BadPost w) := by
  have HV := Lib.hid hv
  rcases numD_bad h with h1 | ⟨v, h1, h2⟩ | ⟨v, h1, h2, h3⟩
  · have HA := Lib.hid h1
    clear h h1 hv
    go_enter Tryz.func156, Tryz.ntmps156
    go_wp2_with (first
      | (go_at_call 199; refine (atoi_bad s hs HA.out _ B HV.out).mono ?_; rintro e w1 ⟨n, ev, rfl, ⟨te, pe, rfl⟩, hb1⟩; have B1 := Lib.hid hb1; clear hb1))
    exact ⟨rfl, rfl, B1.out⟩
  · have hi : I64 v := atoi_i64 h1
    have HA := Lib.hid h1
    have hne := toList_ne h2
    clear h h1 hv h2
    go_enter Tryz.func156, Tryz.ntmps156
    go_wp2_with (first
      | (go_at_call 199; refine (atoi_ok s v hs HA.out _).mono ?_; rintro e w1 ⟨rfl, hb1⟩; have B1 := Lib.hid hb1; clear hb1)
      | (go_at_call 144; refine (itoa_any v hi B _ (Nat.le_trans hB B1.out.size) (HV.out.pow.later (B1.out.mono hB))).mono ?_; rintro e w2 ⟨rfl, hb2⟩; have B2 := Lib.hid (B1.out.trans (hb2.mono B1.out.size)); clear hb2))
    exact ⟨rfl, rfl, B2.out⟩
  · have hi : I64 v := atoi_i64 h1
    have HA := Lib.hid h1
    have HS := Lib.hid h2
    have hsz : ¬ ((Lib.trimPrefix s.data.toList [45]).length : Int) ≤ 15 := by omega
    clear h h1 hv h2 h3
    go_enter Tryz.func156, Tryz.ntmps156
    go_wp2_with (first
      | (go_at_call 199; refine (atoi_ok s v hs HA.out _).mono ?_; rintro e w1 ⟨rfl, hb1⟩; have B1 := Lib.hid hb1; clear hb1)
      | (go_at_call 144; refine (itoa_any v hi B _ (Nat.le_trans hB B1.out.size) (HV.out.pow.later (B1.out.mono hB))).mono ?_; rintro e w2 ⟨rfl, hb2⟩; have B2 := Lib.hid (B1.out.trans (hb2.mono B1.out.size)); clear hb2; rw [HS.out])
      | (go_at_call 200; refine (Tryz.strings_TrimPrefix s ⟨#[45]⟩ _).mono ?_; rintro e w3 ⟨rfl, rfl⟩))
    exact ⟨rfl, rfl, B2.out⟩

/-- The numbers that words write. -/
def numsD : List ByteArray → Option (List Int)
  | [] => some []
  | s :: l => match numD s with
    | some v => (numsD l).map (v :: ·)
    | none => none
theorem numsD_snoc : ∀ (l : List ByteArray) (s : ByteArray), numsD (l ++ [s]) = (numsD l).bind fun L => (numD s).map fun v => L ++ [v]
  | [], s => by cases h : numD s <;> simp [numsD, h]
  | x :: l, s => by
    rw [List.cons_append, numsD, numsD, numsD_snoc l s]
    cases numD x with
    | none => rfl
    | some v => cases numsD l <;> cases numD s <;> simp
theorem numsD_none : ∀ (l : List ByteArray) (s : ByteArray) (r : List ByteArray), numD s = none → numsD (l ++ s :: r) = none
  | [], s, r, h => by simp [numsD, h]
  | x :: l, s, r, h => by
    rw [List.cons_append, numsD, numsD_none l s r h]
    cases numD x <;> rfl
theorem numsD_length : ∀ {l : List ByteArray} {L : List Int}, numsD l = some L → L.length = l.length
  | [], L, h => by cases h; rfl
  | x :: l, L, h => by
    rw [numsD] at h
    cases hx : numD x with
    | none => rw [hx] at h; cases h
    | some v =>
      rw [hx] at h
      simp only at h
      cases hl : numsD l with
      | none => rw [hl] at h; cases h
      | some M =>
        rw [hl] at h
        cases h
        simp [numsD_length hl]
theorem nums_stop {ws : List ByteArray} {k : Nat} {x : ByteArray} (hx : ws[k]? = some x) (h : numD x = none) : numsD ws = none := by
  have : ws = ws.take k ++ x :: ws.drop (k + 1) := by
    obtain ⟨hk, e⟩ := List.getElem?_eq_some_iff.1 hx
    rw [← e]
    simp
  rw [this]
  exact numsD_none _ _ _ h
/-- How the reading of words as numbers ends. -/
def NumsPost (w : World) (ws : List ByteArray) (e : Ending) (w' : World) : Prop := match numsD ws with
  | some L => ∃ v, e = .returned v ∧ w'.ownsRow w.heap.size 3 1 v L.length (intCells L) ∧ Below w.heap.size w w'
  | none => BadPost w e w'
theorem NumsPost.bad {w : World} {ws : List ByteArray} {e : Ending} {w' : World} (h : numsD ws = none) (hp : BadPost w e w') : NumsPost w ws e w' := by unfold NumsPost; rw [h]; exact hp
theorem NumsPost.ok {w : World} {ws : List ByteArray} {L : List Int} {v : Value} {w' : World} (h : numsD ws = some L) (ho : w'.ownsRow w.heap.size 3 1 v L.length (intCells L)) (hb : Below w.heap.size w w') : NumsPost w ws (.returned v) w' := by unfold NumsPost; rw [h]; exact ⟨v, rfl, ho, hb⟩

theorem numbers_len (A : Option Addr) (n c least most : Nat) (w : World) (_hn : n ≤ 140737488351232) (_hl : least ≤ 140737488351232) (_hm : most ≤ 140737488351232) (h : n < least ∨ most < n) :
    Calls Tryz.prog 128 #[.slice A n c, .int .i64 least, .int .i64 most] w (BadPost w) := by
  by_cases h1 : n < least
  · go_enter Tryz.func128, Tryz.ntmps128
    go_wp2
    exact ⟨rfl, rfl, Below.refl _ _⟩
  · have h2 : most < n := by omega
    clear h
    go_enter Tryz.func128, Tryz.ntmps128
    go_wp2
    exact ⟨rfl, rfl, Below.refl _ _⟩
theorem one_int (n : Int) : ∀ u ∈ (#[.int .i64 n] : Array Value).toList, u.oneCell' = true := by
  intro u hu
  simp only [List.mem_cons, List.not_mem_nil, or_false] at hu
  subst hu
  rfl
theorem nums_next {ws : List ByteArray} {k : Nat} {x : ByteArray} {L : List Int} {u : Int} (hx : ws[k]? = some x) (h : numD x = some u) (hL : numsD (ws.take k) = some L) : numsD (ws.take (k + 1)) = some (L ++ [u]) := by
  rw [List.take_add_one, hx]
  rw [show (some x).toList = [x] from rfl, numsD_snoc, hL, h]
  rfl
set_option maxHeartbeats 2000000 in
theorem numbers_in (A : Option Addr) (n c least most B : Nat) (ws : List ByteArray) (w : World) (hr : Reads w B 1 A n (strCells ws)) (hn : n = ws.length) (hs : n ≤ 1000000) (hl : least ≤ n) (hm : n ≤ most) (hm2 : most ≤ 140737488351232) (hz : ∀ x ∈ ws, x.size ≤ 281474976710656) (hv : Vars B w) (hB : B ≤ w.heap.size) :
    Calls Tryz.prog 128 #[.slice A n c, .int .i64 least, .int .i64 most] w (NumsPost w ws) := by
  have HR := Lib.hid hr
  have HN := Lib.hid hn
  have HV := Lib.hid hv
  have HZ := Lib.hid hz
  clear hr hn hv hz
  have h1 : ¬ n < least := by omega
  have h2 : ¬ most < n := by omega
  go_enter Tryz.func128, Tryz.ntmps128
  go_wp2
  go_loopw [7, 24] (fun v i wr => ∃ (k : Nat) (L : List Int), k ≤ n ∧ i = .int .i64 k ∧ numsD (ws.take k) = some L ∧ wr.ownsRow w.heap.size 3 1 v k (intCells L) ∧ Below w.heap.size w wr) (fun _ i _ => n - (intOf i).toNat)
  case atStart => exact ⟨0, [], by omega, rfl, rfl, World.ownsRow_nil _ _ _ _, Below.refl _ _⟩
  case round =>
    obtain ⟨k, L, hk, rfl, hL, ho, hb⟩ := hrel
    have HL := Lib.hid hL
    have HO := Lib.hid ho
    have HB := Lib.hid hb
    clear hL ho hb
    by_cases hlt : k < n
    · obtain ⟨ad, x, had, hx, hab, c0⟩ := Reads.elem1 (f := Value.string) (HR.out.below (HB.out.mono hB)) HN.out hlt
      have HX := Lib.hid hx
      have hxs := HZ.out x (List.mem_of_getElem? hx)
      rw [had]
      clear hx had hab
      cases hd : numD x with
      | none =>
        have HD := Lib.hid hd
        clear hd
        go_wp2_with (go_at_call 156; refine (number_bad x hxs HD.out B _ (HV.out.later (HB.out.mono hB)) (Nat.le_trans hB HB.out.size)).mono ?_; rintro e w3 ⟨rfl, hb3⟩; have HB3 := Lib.hid (HB.out.trans (hb3.mono HB.out.size)); clear hb3; unfold badP)
        exact ⟨rfl, NumsPost.bad (nums_stop HX.out HD.out) ⟨rfl, HB3.out⟩⟩
      | some u =>
        have HD := Lib.hid hd
        clear hd
        go_wp2_with (first
          | (at_builtin; refine wpList_pushG elemInts rfl _ _ rfl w.heap.size _ _ _ rfl (own_below HO.out HB3.out) _ _ rfl (by first | rfl | simp) rfl (one_int _) (by omega) (Nat.le_trans HB.out.size HB3.out.size) ?_; intro v' w5 ho hg; have HO5 := Lib.hid ho; have HG := Lib.hid hg; clear ho hg)
          | (go_at_call 156; refine (number_ok x u hxs HD.out B _ (HV.out.later (HB.out.mono hB)) (Nat.le_trans hB HB.out.size)).mono ?_; rintro e w3 ⟨rfl, hb3⟩; have HB3 := Lib.hid hb3; clear hb3))
        go_roundw
        case rel => exact ⟨k + 1, L ++ [u], by omega, by go_num, nums_next HX.out HD.out HL.out, by rw [show intCells (L ++ [u]) = intCells L ++ (#[.int .i64 u] : Array Value).toList from by simp [intCells]]; exact HO5.out, (HB.out.trans (HB3.out.mono HB.out.size)).grown HG.out (Nat.le_trans HB.out.size HB3.out.size) (fun q hq => (HO.out.lt q hq).1)⟩
        case measure => simp [intOf]; omega
    · obtain rfl : k = n := by omega
      go_wp2
      go_ret
      rw [List.take_of_length_le (by have := HN.out; omega)] at HL
      exact NumsPost.ok HL.out (by rw [numsD_length HL.out, ← HN.out]; exact HO.out) HB.out
end Go.Proofs.YtmfnholhhakgaaaGreatDoor
