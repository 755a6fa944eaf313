/- code.tables: what it computes, and its contract. -/
import Derived.Test.YtmfnholhhakgaaaGreatDoorMhc
section
namespace Go.Proofs.YtmfnholhhakgaaaGreatDoor
open Go Go.Proofs Go.RowKit
set_option maxRecDepth 100000

def leastOf (p : ProcD) : Int := if p.type = 0 then p.params else wrap64 (p.params + 1)
def procOk (I : Nat) (p : ProcD) : Bool := wiB p.entry 0 ((I : Int) - 1) && wiB p.params 0 8 && (decide (p.type = 0) || tyB p.type) && wiB p.slots (leastOf p) 2000
def placeOk (I : Nat) (n : Int) : Bool := decide (n = -1) || wiB n 0 ((I : Int) - 1)
def thunkOk (I : Nat) (t : ThunkD) : Bool := placeOk I t.value && placeOk I t.address && placeOk I t.desig
def switchOk (I : Nat) (l : List Int) : Bool := wiB l.length 1 2000 && !(l.any fun n => !wiB n 0 ((I : Int) - 1))
def strInts (s : ByteArray) : List Int := s.data.toList.map fun b => (b.toNat : Int)
def strOk (s : ByteArray) : Bool := decide (s.size ≤ 80) && !((strInts s).any badByte)
def realOk (x : RealD) : Bool := realB x.man x.exp && decide (0 ≤ x.man)
def ownOk (n : Int) : Bool := decide (n = 0) || tyB n
/-- The index of the first element that does not fulfil p; -1 if there is none. -/
def fb {α : Type} (p : α → Bool) (l : List α) : Int := idxOf (fun x => !p x) l
theorem fb_hit {α : Type} {p : α → Bool} {l : List α} {k : Nat} {x : α} (hx : l[k]? = some x) (h : p x = false) (hb : ∀ (j : Nat) (y : α), j < k → l[j]? = some y → p y = true) : fb p l = k :=
  idxOf_hit hx (by simp [h]) (fun j y hj hy => by simp [hb j y hj hy])
theorem fb_miss {α : Type} {p : α → Bool} {l : List α} (hb : ∀ (j : Nat) (y : α), l[j]? = some y → p y = true) : fb p l = -1 :=
  idxOf_miss (fun j y hy => by simp [hb j y hy])
theorem fb_cases {α : Type} (p : α → Bool) (l : List α) : fb p l = -1 ∨ 0 ≤ fb p l := by
  unfold fb idxOf
  cases l.findIdx? (fun x => !p x) with
  | none => exact .inl rfl
  | some i => exact .inr (by simp)
def tabFb (c : CodeD) : List Int := [fb (procOk c.instrs.length) c.procs, fb (thunkOk c.instrs.length) c.thunks, fb (switchOk c.instrs.length) c.switches, fb strOk c.strings, fb realOk c.reals, fb ownOk c.owns]
/-- The index of the first bad element of the tables; -1 if there is none. -/
def tabAt (c : CodeD) : Int := ((tabFb c).find? (fun n => decide (0 ≤ n))).getD (-1)
def tabErr (c : CodeD) : Int := if tabAt c = -1 then 0 else 3
theorem tab_hit {c : CodeD} (pre post : List Int) (k : Nat) (h : tabFb c = pre ++ (k : Int) :: post) (hp : ∀ x ∈ pre, x = -1) : tabAt c = k ∧ tabErr c = 3 := by
  have : tabAt c = k := by
    unfold tabAt
    rw [h, List.find?_append]
    have : pre.find? (fun n => decide (0 ≤ n)) = none := by
      rw [List.find?_eq_none]
      intro x hx
      rw [hp x hx]
      simp
    rw [this]
    simp
  refine ⟨this, ?_⟩
  unfold tabErr
  rw [this, if_neg (by omega)]
theorem tab_none {c : CodeD} (h : ∀ x ∈ tabFb c, x = -1) : tabAt c = -1 ∧ tabErr c = 0 := by
  have : tabAt c = -1 := by
    unfold tabAt
    have : (tabFb c).find? (fun n => decide (0 ≤ n)) = none := by
      rw [List.find?_eq_none]
      intro x hx
      rw [h x hx]
      simp
    rw [this]; rfl
  exact ⟨this, by unfold tabErr; rw [this, if_pos rfl]⟩

/-- What a walk over a code that lies in a box (block N) beside a closure (block N + 1) carries on. -/
structure TInv (N : Nat) (h : CodeH) (w wr : World) : Prop where
  b : Below N w wr
  z : N + 2 ≤ wr.heap.size
  c0 : wr.cell? ⟨N, 0, none⟩ = some (.slice h.i.a h.i.n h.i.c)
  c1 : wr.cell? ⟨N, 1, none⟩ = some (.slice h.p.a h.p.n h.p.c)
  c2 : wr.cell? ⟨N, 2, none⟩ = some (.slice h.t.a h.t.n h.t.c)
  c3 : wr.cell? ⟨N, 3, none⟩ = some (.slice h.s.a h.s.n h.s.c)
  c4 : wr.cell? ⟨N, 4, none⟩ = some (.slice h.g.a h.g.n h.g.c)
  c5 : wr.cell? ⟨N, 5, none⟩ = some (.slice h.r.a h.r.n h.r.c)
  c6 : wr.cell? ⟨N, 6, none⟩ = some (.slice h.o.a h.o.n h.o.c)
  f : wr.cell? ⟨N + 1, 0, none⟩ = some (.func (.func 82) #[] #[.pointer (some ⟨N, 0, none⟩)])
theorem TInv.to {N : Nat} {h : CodeH} {w wr wx : World} (H : TInv N h w wr) (hb : Below (N + 2) wr wx) : TInv N h w wx :=
  { b := H.b.trans (hb.mono (by omega)), z := Nat.le_trans H.z (by have := hb.size; have := H.z; omega)
    c0 := (hb.cell (p := ⟨N, 0, none⟩) (by simp)).trans H.c0, c1 := (hb.cell (p := ⟨N, 1, none⟩) (by simp)).trans H.c1, c2 := (hb.cell (p := ⟨N, 2, none⟩) (by simp)).trans H.c2
    c3 := (hb.cell (p := ⟨N, 3, none⟩) (by simp)).trans H.c3, c4 := (hb.cell (p := ⟨N, 4, none⟩) (by simp)).trans H.c4, c5 := (hb.cell (p := ⟨N, 5, none⟩) (by simp)).trans H.c5
    c6 := (hb.cell (p := ⟨N, 6, none⟩) (by simp)).trans H.c6, f := (hb.cell (p := ⟨N + 1, 0, none⟩) (by simp)).trans H.f }
theorem TInv.alloc {N : Nat} {h : CodeH} {w wr : World} (H : TInv N h w wr) (o : Obj) : TInv N h w (wr.alloc o) := H.to ((Below.refl _ _).alloc H.z o)
theorem TInv.drew {N : Nat} {h : CodeH} {w wr : World} (H : TInv N h w wr) : TInv N h w wr.drew := H.to ((Below.refl _ _).drew)
theorem TInv.start (h : CodeH) (w : World) : TInv w.heap.size h w ((w.alloc (.cells #[.slice h.i.a h.i.n h.i.c, .slice h.p.a h.p.n h.p.c, .slice h.t.a h.t.n h.t.c, .slice h.s.a h.s.n h.s.c, .slice h.g.a h.g.n h.g.c, .slice h.r.a h.r.n h.r.c, .slice h.o.a h.o.n h.o.c] 30)).alloc (.cells #[.func (.func 82) #[] #[.pointer (some ⟨w.heap.size, 0, none⟩)]] 57)) := by
  have hb : ∀ (i : Nat) o1 o2, ((w.alloc o1).alloc o2).cell? ⟨w.heap.size, i, none⟩ = (w.alloc o1).cell? ⟨w.heap.size, i, none⟩ := fun i o1 o2 => World.cell?_alloc_lt _ _ _ (by simp)
  have hn : ∀ (cs : Array Value) t i, (w.alloc (.cells cs t)).cell? ⟨w.heap.size, i, none⟩ = cs[i]? := fun cs t i => cell_of_row _ w.heap.size _ _ t (0, 0) (heap_alloc_new w _)
  refine { b := ((Below.refl w.heap.size w).alloc (Nat.le_refl _) _).alloc (by simp) _, z := by simp, c0 := ?_, c1 := ?_, c2 := ?_, c3 := ?_, c4 := ?_, c5 := ?_, c6 := ?_, f := ?_ }
  all_goals first
    | (rw [hb, hn]; rfl)
    | simp
theorem box_below {w w' : World} {cs : Array Value} {t : TypeId} (hb : Below (w.alloc (.cells cs t)).heap.size (w.alloc (.cells cs t)) w') (i : Nat) : w'.cell? ⟨w.heap.size, i, none⟩ = cs[i]? :=
  (hb.cell (p := ⟨w.heap.size, i, none⟩) (by simp)).trans (cell_of_row _ w.heap.size _ _ t (0, 0) (heap_alloc_new w _))
theorem reads_bytes (w : World) (s : ByteArray) (cap : Nat) (m : Nat × Nat) : Reads (w.alloc (.cells (bytesRow s cap) 5 m)).drew (w.heap.size + 1) 1 (some ⟨w.heap.size, 0, none⟩) s.size ((strInts s).map (Value.int .u8)) := by
  refine ⟨by simp [strInts], fun _ => ⟨_, rfl, by simp, fun j u hu => ?_⟩⟩
  have hc := cell_of_row (w.alloc (.cells (bytesRow s cap) 5 m)) w.heap.size j _ 5 m (heap_alloc_new w _)
  have : (⟨w.heap.size, 0, none⟩ : Addr).add j = ⟨w.heap.size, j, none⟩ := by unfold Addr.add; split <;> simp_all
  rw [this]
  show (w.alloc (.cells (bytesRow s cap) 5 m)).cell? ⟨w.heap.size, j, none⟩ = some u
  rw [hc]
  simp only [strInts, List.map_map, List.getElem?_map] at hu
  obtain ⟨b, hb, rfl⟩ := Option.map_eq_some_iff.1 hu
  unfold bytesRow
  have hj := (List.getElem?_eq_some_iff.1 hb).1
  rw [Array.getElem?_append_left (by simpa using hj)]
  simp only [Array.getElem?_map]
  have : s.data[j]? = some b := by rw [← Array.getElem?_toList]; exact hb
  rw [this]; rfl
end Go.Proofs.YtmfnholhhakgaaaGreatDoor
end
section
namespace Go.Proofs.YtmfnholhhakgaaaGreatDoor
open Go Go.Proofs Go.RowKit
set_option maxRecDepth 100000
theorem procBad1 {I : Nat} {x : ProcD} (h : ¬ wiB x.entry 0 ((I : Int) - 1) = true) : procOk I x = false := by unfold procOk; simp [h]
theorem procBad2 {I : Nat} {x : ProcD} (h : ¬ wiB x.params 0 8 = true) : procOk I x = false := by unfold procOk; simp [h]
theorem procBad3 {I : Nat} {x : ProcD} (h0 : (x.type != 0) = true) (h : ¬ tyB x.type = true) : procOk I x = false := by unfold procOk; simp at h0; simp [h, h0]
theorem procBad4 {I : Nat} {x : ProcD} (h0 : (x.type != 0) = true) (h : (!wiB x.slots (wrap64 (x.params + 1)) 2000) = true) : procOk I x = false := by unfold procOk leastOf; simp at h0 h; simp [h, h0]
theorem procBad5 {I : Nat} {x : ProcD} (h0 : (x.type != 0) = false) (h : (!wiB x.slots x.params 2000) = true) : procOk I x = false := by unfold procOk leastOf; simp at h0 h; simp [h, h0]
theorem procGood1 {I : Nat} {x : ProcD} (h0 : (x.type != 0) = true) (h1 : wiB x.entry 0 ((I : Int) - 1) = true) (h2 : wiB x.params 0 8 = true) (h3 : tyB x.type = true) (h : (!wiB x.slots (wrap64 (x.params + 1)) 2000) = false) : procOk I x = true := by unfold procOk leastOf; simp at h0 h; simp [h, h0, h1, h2, h3]
theorem procGood2 {I : Nat} {x : ProcD} (h0 : (x.type != 0) = false) (h1 : wiB x.entry 0 ((I : Int) - 1) = true) (h2 : wiB x.params 0 8 = true) (h : (!wiB x.slots x.params 2000) = false) : procOk I x = true := by unfold procOk leastOf; simp at h0 h; simp [h, h0, h1, h2]
theorem upto_succ {α : Type} {p : α → Bool} {l : List α} {k : Nat} {x : α} (hx : l[k]? = some x) (hp : p x = true) (hno : ∀ (j : Nat) (y : α), j < k → l[j]? = some y → p y = true) : ∀ (j : Nat) (y : α), j < k + 1 → l[j]? = some y → p y = true := by
  intro j y hj hy
  rcases Nat.lt_succ_iff_lt_or_eq.1 hj with h | rfl
  · exact hno j y h hy
  · rw [hx] at hy; cases hy; exact hp
theorem fb_end {α : Type} {p : α → Bool} {l : List α} {n : Nat} (hn : n = l.length) (hno : ∀ (j : Nat) (y : α), j < n → l[j]? = some y → p y = true) : fb p l = -1 :=
  fb_miss fun j y hy => hno j y (by have := (List.getElem?_eq_some_iff.1 hy).1; omega) hy
theorem thunkBad {I : Nat} {x : ThunkD} {n : Int} (hn : n = x.value ∨ n = x.address ∨ n = x.desig) (h0 : (n != -1) = true) (h : ¬ wiB n 0 ((I : Int) - 1) = true) : thunkOk I x = false := by
  unfold thunkOk placeOk
  simp at h0
  rcases hn with rfl | rfl | rfl <;> simp [h, h0]
theorem placeGood {I : Nat} {n : Int} (h : (n != -1) = false ∨ wiB n 0 ((I : Int) - 1) = true) : placeOk I n = true := by
  unfold placeOk
  rcases h with h | h <;> simp_all

theorem switchBadA {I : Nat} {l : List Int} (h : (l.any fun n => !wiB n 0 ((I : Int) - 1)) = true) : switchOk I l = false := by unfold switchOk; rw [h]; simp
theorem switchBadB {I n : Nat} {l : List Int} (hn : n = l.length) (h : ¬ wiB (n : Int) 1 2000 = true) : switchOk I l = false := by subst hn; unfold switchOk; simp [h]
theorem switchGood {I n : Nat} {l : List Int} (hn : n = l.length) (h1 : wiB (n : Int) 1 2000 = true) (h : (l.any fun n => !wiB n 0 ((I : Int) - 1)) = false) : switchOk I l = true := by subst hn; unfold switchOk; rw [h, h1]; rfl
theorem strBadA {s : ByteArray} (h : (80 : Int) < (s.size : Int)) : strOk s = false := by unfold strOk; rw [decide_eq_false (by omega)]; rfl
theorem strBadB {s : ByteArray} (h : ((strInts s).any badByte) = true) : strOk s = false := by unfold strOk; rw [h]; simp
theorem strBadC {s : ByteArray} (h : (80 : Int) < (s.size : Int) ∨ ((strInts s).any badByte) = true) : strOk s = false := h.elim strBadA strBadB
theorem strGood {s : ByteArray} (h : (s.size : Int) ≤ 80 ∧ ((strInts s).any badByte) = false) : strOk s = true := by unfold strOk; rw [h.2, decide_eq_true (by omega)]; rfl
theorem realBadA {x : RealD} (h : ¬ realB x.man x.exp = true) : realOk x = false := by unfold realOk; simp [h]
theorem realBadB {x : RealD} (h : x.man < 0) : realOk x = false := by unfold realOk; rw [decide_eq_false (by omega)]; simp
theorem realGood {x : RealD} (h1 : realB x.man x.exp = true) (h : 0 ≤ x.man) : realOk x = true := by unfold realOk; rw [decide_eq_true h, h1]; rfl
theorem ownBad {n : Int} (h0 : (n != 0) = true) (h : tyB n = false) : ownOk n = false := by unfold ownOk; simp at h0; simp [h, h0]
theorem ownGood {n : Int} (h : (n != 0) = false ∨ tyB n = true) : ownOk n = true := by unfold ownOk; rcases h with h | h <;> simp_all
theorem index3_0 (a b c : Int) (w : World) : (Instr.index 83 (.agg #[.int .i64 a, .int .i64 b, .int .i64 c]) (.int .i64 0)).run Tryz.prog w = .ok (.int .i64 a) w := by kernel_rfl
theorem index3_1 (a b c : Int) (w : World) : (Instr.index 83 (.agg #[.int .i64 a, .int .i64 b, .int .i64 c]) (.int .i64 1)).run Tryz.prog w = .ok (.int .i64 b) w := by kernel_rfl
theorem index3_2 (a b c : Int) (w : World) : (Instr.index 83 (.agg #[.int .i64 a, .int .i64 b, .int .i64 c]) (.int .i64 2)).run Tryz.prog w = .ok (.int .i64 c) w := by kernel_rfl
set_option maxHeartbeats 16000000 in
theorem tables_any (h : CodeH) (c : CodeD) (w : World) (H : CodeAt w w.heap.size h c) : Calls Tryz.prog 43 #[.agg #[.slice h.i.a h.i.n h.i.c, .slice h.p.a h.p.n h.p.c, .slice h.t.a h.t.n h.t.c, .slice h.s.a h.s.n h.s.c, .slice h.g.a h.g.n h.g.c, .slice h.r.a h.r.n h.r.c, .slice h.o.a h.o.n h.o.c]] w
    fun e w' => e = .returned (.tuple #[.int .i64 (tabErr c), .int .i64 (tabAt c)]) ∧ Below w.heap.size w w' := by
  have hmf : ∀ (fn : Fn) (first cap : Array Value) (w : World), (Instr.makeFunc fn first cap).run Tryz.prog w = .ok (.func fn first cap) w := fun _ _ _ _ => rfl
  have T0 := Lib.hid (TInv.start h w)
  have HI : Small h.i.n := H.ni.2
  unfold Small at HI
  have en82 := enters82
  unfold Enters at en82
  have HC := Lib.hid H
  have HL : Hid (h.i.n = c.instrs.length) := Lib.hid H.ni.1
  clear H
  go_enter Tryz.func43, Tryz.ntmps43
  go_wp2
  go_loopw [25] (fun i wr => ∃ k : Nat, k ≤ h.p.n ∧ i = .int .i64 k ∧ TInv w.heap.size h w wr ∧ ∀ (j : Nat) (y : ProcD), j < k → c.procs[j]? = some y → procOk h.i.n y = true) (fun i _ => h.p.n - (intOf i).toNat)
  case atStart => exact ⟨0, by omega, rfl, T0.out, fun j y hj => by omega⟩
  case round =>
    obtain ⟨k, hk, rfl, hT, hno⟩ := hrel
    have HT := Lib.hid hT
    have HNO := Lib.hid hno
    clear hno hT T0
    by_cases hlt : k < h.p.n
    · have hn : h.p.n ≤ 140737488351232 := HC.out.np.2
      obtain ⟨ad, x, had, hx, hab, hc⟩ := Reads.elem (f := ProcD.cells) (fun _ => rfl) (HC.out.p.below HT.out.b) HC.out.np.1 hlt
      have c0 := hc 0 _ (by omega) rfl
      have c1 := hc 1 _ (by omega) rfl
      have c2 := hc 2 _ (by omega) rfl
      have c3 := hc 3 _ (by omega) rfl
      have c4 := hc 4 _ (by omega) rfl
      rw [show (ad.add (k * 5)).add 0 = ad.add (k * 5) from rfl] at c0
      rw [show (ad.add (k * 5)).add 1 = { block := (ad.add (k * 5)).block, off := (ad.add (k * 5)).off + 1 } from rfl] at c1
      rw [show (ad.add (k * 5)).add 2 = { block := (ad.add (k * 5)).block, off := (ad.add (k * 5)).off + 2 } from rfl] at c2
      rw [show (ad.add (k * 5)).add 3 = { block := (ad.add (k * 5)).block, off := (ad.add (k * 5)).off + 3 } from rfl] at c3
      rw [show (ad.add (k * 5)).add 4 = { block := (ad.add (k * 5)).block, off := (ad.add (k * 5)).off + 4 } from rfl] at c4
      rw [had]
      have HX := Lib.hid hx
      clear hc hx had hab
      have f1 := fun o => (HT.out.alloc o).f
      go_wp2_with (first
        | (go_at_call 82; refine (place_any _ _ _ _ _ HI _ (HT.out.alloc _).c0).mono ?_; rintro e w' ⟨rfl, rfl⟩)
        | (go_at_call 79; refine (within_any _ _ _ _).mono ?_; rintro e w' ⟨rfl, rfl⟩)
        | (go_at_call 83; refine (isType_any _ _).mono ?_; rintro e w' ⟨rfl, rfl⟩))
      all_goals first
        | (have hbad : procOk h.i.n x = false := by first | exact procBad1 (by assumption) | exact procBad2 (by assumption) | exact procBad3 (by assumption) (by assumption) | exact procBad4 (by assumption) (by assumption) | exact procBad5 (by assumption) (by assumption)
           have hh := tab_hit (c := c) [] _ k (by unfold tabFb; rw [← HL.out, fb_hit HX.out hbad HNO.out]; rfl) (by simp)
           go_ret2
           exact ⟨by rw [hh.1, hh.2]; rfl, (HT.out.alloc _).b⟩)
        | (have hgood : procOk h.i.n x = true := by first | exact procGood1 (by assumption) (by assumption) (by assumption) (by assumption) (by assumption) | exact procGood2 (by assumption) (by assumption) (by assumption) (by assumption)
           go_roundw
           case rel => exact ⟨k + 1, by omega, by go_num, HT.out.alloc _, upto_succ HX.out hgood HNO.out⟩
           case measure => simp [intOf]; omega)
    · have P1 : Hid (fb (procOk h.i.n) c.procs = -1) := Lib.hid (fb_end HC.out.np.1 (fun j y hj => HNO.out j y (by omega)))
      have f2 := HT.out.c2
      have T0 := HT
      clear HT HNO
      go_wp2
      clear f2
      go_loopw [71] (fun i wr => ∃ k : Nat, k ≤ h.t.n ∧ i = .int .i64 k ∧ TInv w.heap.size h w wr ∧ ∀ (j : Nat) (y : ThunkD), j < k → c.thunks[j]? = some y → thunkOk h.i.n y = true) (fun i _ => h.t.n - (intOf i).toNat)
      case atStart => exact ⟨0, by omega, rfl, T0.out, fun j y hj => by omega⟩
      case round =>
        obtain ⟨k, hk, rfl, hT, hno⟩ := hrel
        have HT := Lib.hid hT
        have HNO := Lib.hid hno
        clear hno hT T0
        by_cases hlt : k < h.t.n
        · have hn : h.t.n ≤ 140737488351232 := HC.out.nt.2
          obtain ⟨ad, x, had, hx, hab, hc⟩ := Reads.elem (f := ThunkD.cells) (fun _ => rfl) (HC.out.t.below HT.out.b) HC.out.nt.1 hlt
          have c0 := hc 0 _ (by omega) rfl
          have c1 := hc 1 _ (by omega) rfl
          have c2 := hc 2 _ (by omega) rfl
          rw [show (ad.add (k * 3)).add 0 = ad.add (k * 3) from rfl] at c0
          rw [show (ad.add (k * 3)).add 1 = { block := (ad.add (k * 3)).block, off := (ad.add (k * 3)).off + 1 } from rfl] at c1
          rw [show (ad.add (k * 3)).add 2 = { block := (ad.add (k * 3)).block, off := (ad.add (k * 3)).off + 2 } from rfl] at c2
          rw [had]
          have HX := Lib.hid hx
          clear hc hx had hab
          have f1 := fun o => (HT.out.alloc o).f
          go_wp2
          go_loop [83] (fun i => ∃ m : Nat, m ≤ 3 ∧ i = .int .i64 m ∧ (0 < m → placeOk h.i.n x.value = true) ∧ (1 < m → placeOk h.i.n x.address = true) ∧ (2 < m → placeOk h.i.n x.desig = true)) (fun i => 3 - (intOf i).toNat)
          case atStart => exact ⟨0, by omega, rfl, by omega, by omega, by omega⟩
          case round =>
            obtain ⟨m, hm, rfl, g0, g1, g2⟩ := hrel
            have G0 := Lib.hid g0
            have G1 := Lib.hid g1
            have G2 := Lib.hid g2
            clear g0 g1 g2
            have ix0 := index3_0 x.value x.address x.desig
            have ix1 := index3_1 x.value x.address x.desig
            have ix2 := index3_2 x.value x.address x.desig
            match m, hm with
            | 0, _ =>
              cases hv : (x.value != -1) with
              | true =>
                cases hw : wiB x.value 0 ((h.i.n : Int) - 1) with
                | true =>
                  go_wp2_with (go_at_call 82; refine (place_any _ _ _ _ _ HI _ (HT.out.alloc _).c0).mono ?_; rintro e w' ⟨rfl, rfl⟩)
                  go_round
                  case rel => exact ⟨1, by omega, by go_num, fun _ => placeGood (.inr hw), by omega, by omega⟩
                  case measure => simp [intOf]
                | false =>
                  go_wp2_with (go_at_call 82; refine (place_any _ _ _ _ _ HI _ (HT.out.alloc _).c0).mono ?_; rintro e w' ⟨rfl, rfl⟩)
                  have hbad : thunkOk h.i.n x = false := thunkBad (n := x.value) (.inl rfl) hv (by rw [hw]; simp)
                  have hh := tab_hit (c := c) [-1] _ k (by unfold tabFb; rw [← HL.out, P1.out, fb_hit HX.out hbad HNO.out]; rfl) (by simp)
                  go_ret2
                  exact ⟨by rw [hh.1, hh.2]; rfl, (HT.out.alloc _).b⟩
              | false =>
                go_wp2_with (go_at_call 82; refine (place_any _ _ _ _ _ HI _ (HT.out.alloc _).c0).mono ?_; rintro e w' ⟨rfl, rfl⟩)
                go_round
                case rel => exact ⟨1, by omega, by go_num, fun _ => placeGood (.inl hv), by omega, by omega⟩
                case measure => simp [intOf]
            | 1, _ =>
              cases hv : (x.address != -1) with
              | true =>
                cases hw : wiB x.address 0 ((h.i.n : Int) - 1) with
                | true =>
                  go_wp2_with (go_at_call 82; refine (place_any _ _ _ _ _ HI _ (HT.out.alloc _).c0).mono ?_; rintro e w' ⟨rfl, rfl⟩)
                  go_round
                  case rel => exact ⟨2, by omega, by go_num, fun _ => G0.out (by omega), fun _ => placeGood (.inr hw), by omega⟩
                  case measure => simp [intOf]
                | false =>
                  go_wp2_with (go_at_call 82; refine (place_any _ _ _ _ _ HI _ (HT.out.alloc _).c0).mono ?_; rintro e w' ⟨rfl, rfl⟩)
                  have hbad : thunkOk h.i.n x = false := thunkBad (n := x.address) (.inr (.inl rfl)) hv (by rw [hw]; simp)
                  have hh := tab_hit (c := c) [-1] _ k (by unfold tabFb; rw [← HL.out, P1.out, fb_hit HX.out hbad HNO.out]; rfl) (by simp)
                  go_ret2
                  exact ⟨by rw [hh.1, hh.2]; rfl, (HT.out.alloc _).b⟩
              | false =>
                go_wp2_with (go_at_call 82; refine (place_any _ _ _ _ _ HI _ (HT.out.alloc _).c0).mono ?_; rintro e w' ⟨rfl, rfl⟩)
                go_round
                case rel => exact ⟨2, by omega, by go_num, fun _ => G0.out (by omega), fun _ => placeGood (.inl hv), by omega⟩
                case measure => simp [intOf]
            | 2, _ =>
              cases hv : (x.desig != -1) with
              | true =>
                cases hw : wiB x.desig 0 ((h.i.n : Int) - 1) with
                | true =>
                  go_wp2_with (go_at_call 82; refine (place_any _ _ _ _ _ HI _ (HT.out.alloc _).c0).mono ?_; rintro e w' ⟨rfl, rfl⟩)
                  go_round
                  case rel => exact ⟨3, by omega, by go_num, fun _ => G0.out (by omega), fun _ => G1.out (by omega), fun _ => placeGood (.inr hw)⟩
                  case measure => simp [intOf]
                | false =>
                  go_wp2_with (go_at_call 82; refine (place_any _ _ _ _ _ HI _ (HT.out.alloc _).c0).mono ?_; rintro e w' ⟨rfl, rfl⟩)
                  have hbad : thunkOk h.i.n x = false := thunkBad (n := x.desig) (.inr (.inr rfl)) hv (by rw [hw]; simp)
                  have hh := tab_hit (c := c) [-1] _ k (by unfold tabFb; rw [← HL.out, P1.out, fb_hit HX.out hbad HNO.out]; rfl) (by simp)
                  go_ret2
                  exact ⟨by rw [hh.1, hh.2]; rfl, (HT.out.alloc _).b⟩
              | false =>
                go_wp2_with (go_at_call 82; refine (place_any _ _ _ _ _ HI _ (HT.out.alloc _).c0).mono ?_; rintro e w' ⟨rfl, rfl⟩)
                go_round
                case rel => exact ⟨3, by omega, by go_num, fun _ => G0.out (by omega), fun _ => G1.out (by omega), fun _ => placeGood (.inl hv)⟩
                case measure => simp [intOf]
            | 3, _ =>
              have hgood : thunkOk h.i.n x = true := by unfold thunkOk; rw [G0.out (by omega), G1.out (by omega), G2.out (by omega)]; rfl
              go_wp2
              go_roundw
              case rel => exact ⟨k + 1, by omega, by go_num, HT.out.alloc _, upto_succ HX.out hgood HNO.out⟩
              case measure => simp [intOf]; omega
        · have P2 : Hid (fb (thunkOk h.i.n) c.thunks = -1) := Lib.hid (fb_end HC.out.nt.1 (fun j y hj => HNO.out j y (by omega)))
          have f2 := HT.out.c3
          have T0 := HT
          clear HT HNO
          go_wp2
          clear f2
          go_loopw [100] (fun i wr => ∃ k : Nat, k ≤ h.s.n ∧ i = .int .i64 k ∧ TInv w.heap.size h w wr ∧ ∀ (j : Nat) (y : List Int), j < k → c.switches[j]? = some y → switchOk h.i.n y = true) (fun i _ => h.s.n - (intOf i).toNat)
          case atStart => exact ⟨0, by omega, rfl, T0.out, fun j y hj => by omega⟩
          case round =>
            obtain ⟨k, hk, rfl, hT, hno⟩ := hrel
            have HT := Lib.hid hT
            have HNO := Lib.hid hno
            clear hno hT T0
            by_cases hlt : k < h.s.n
            · have hn : h.s.n ≤ 140737488351232 := HC.out.ns.2
              obtain ⟨hs, hsr, hsl, hsx⟩ := (HC.out.below HT.out.b).s
              obtain ⟨ad, sx, had, hsk, hab, c0⟩ := Reads.elem1 (f := SH.v) hsr (by rw [hsl]; exact HC.out.ns.1) hlt
              rw [show SH.v sx = .slice sx.a sx.n sx.c from rfl] at c0
              obtain ⟨x, hx⟩ : ∃ x, c.switches[k]? = some x := ⟨_, List.getElem?_eq_getElem (by have := HC.out.ns.1; omega)⟩
              obtain ⟨hr, hsm⟩ := hsx k sx x hsk hx
              unfold Small at hsm
              have hxl : sx.n = x.length := by have := hr.1; simp [intCells] at this; omega
              rw [had]
              have HX := Lib.hid hx
              have HXL := Lib.hid hxl
              have HR := Lib.hid hr
              clear hsr hsl hsx hsk had hab hx hxl hr
              have f1 := HT.out.f
              have hcf := containsFunc_ints 85 #[.pointer (some ⟨w.heap.size + 1, 0, none⟩)] (fun n => !wiB n 0 ((h.i.n : Int) - 1)) sx.a sx.n sx.c w.heap.size x wr HR.out HXL.out hsm enters85 (fun n => notPlace_any n w.heap.size (w.heap.size + 1) _ h.i.n _ HI wr HT.out.c0 HT.out.f)
              have HCF := Lib.hid hcf
              clear hcf
              go_wp2_with (first
                | (go_at_call 79; refine (within_any _ _ _ _).mono ?_; rintro e w' ⟨rfl, rfl⟩)
                | (go_at_call 84; refine (HCF.out).mono ?_; rintro e w' ⟨rfl, rfl⟩))
              all_goals first
                | (have hbad : switchOk h.i.n x = false := by first | exact switchBadA (by assumption) | exact switchBadB HXL.out (by assumption)
                   have hh := tab_hit (c := c) [-1, -1] _ k (by unfold tabFb; rw [← HL.out, P1.out, P2.out, fb_hit HX.out hbad HNO.out]; rfl) (by simp)
                   go_ret2
                   exact ⟨by rw [hh.1, hh.2]; rfl, HT.out.b⟩)
                | (have hgood : switchOk h.i.n x = true := switchGood HXL.out (by assumption) (by assumption)
                   go_roundw
                   case rel => exact ⟨k + 1, by omega, by go_num, HT.out, upto_succ HX.out hgood HNO.out⟩
                   case measure => simp [intOf]; omega)
            · have P3 : Hid (fb (switchOk h.i.n) c.switches = -1) := Lib.hid (fb_end HC.out.ns.1 (fun j y hj => HNO.out j y (by omega)))
              have f2 := HT.out.c4
              have T0 := HT
              clear HT HNO
              go_wp2
              clear f2
              go_loopw [119] (fun i wr => ∃ k : Nat, k ≤ h.g.n ∧ i = .int .i64 k ∧ TInv w.heap.size h w wr ∧ ∀ (j : Nat) (y : ByteArray), j < k → c.strings[j]? = some y → strOk y = true) (fun i _ => h.g.n - (intOf i).toNat)
              case atStart => exact ⟨0, by omega, rfl, T0.out, fun j y hj => by omega⟩
              case round =>
                obtain ⟨k, hk, rfl, hT, hno⟩ := hrel
                have HT := Lib.hid hT
                have HNO := Lib.hid hno
                clear hno hT T0
                by_cases hlt : k < h.g.n
                · have hn : h.g.n ≤ 140737488351232 := HC.out.ng.2
                  obtain ⟨ad, x, had, hx, hab, c0⟩ := Reads.elem1 (f := Value.string) (HC.out.g.below HT.out.b) HC.out.ng.1 hlt
                  have hxs : x.size ≤ 140737488351232 := HC.out.zs x (List.mem_of_getElem? hx)
                  rw [had]
                  have HX := Lib.hid hx
                  clear had hab hx
                  have hcv := fun w => run_bytes_of_string (P := Tryz.prog) w 9 138 5 x Tryz.underlying9 Tryz.underlying138 Tryz.underlying5
                  have hcf := fun cap m => containsFunc_bytes 86 #[] badByte (some ⟨wr.heap.size, 0, none⟩) x.size cap _ (strInts x) _ (reads_bytes wr x cap m) (by simp [strInts]) hxs enters86 (fun n => odd_any n _)
                  have HCF := Lib.hid hcf
                  clear hcf
                  go_wp2_with (go_at_call 87; refine (HCF.out _ _).mono ?_; rintro e w' ⟨rfl, rfl⟩)
                  all_goals first
                    | (have hbad : strOk x = false := by first | exact strBadA (by assumption) | exact strBadC (by assumption)
                       have hh := tab_hit (c := c) [-1, -1, -1] _ k (by unfold tabFb; rw [← HL.out, P1.out, P2.out, P3.out, fb_hit HX.out hbad HNO.out]; rfl) (by simp)
                       go_ret2
                       exact ⟨by rw [hh.1, hh.2]; rfl, by first | exact HT.out.b | exact (HT.out.alloc _).drew.b⟩)
                    | (have hgood : strOk x = true := strGood (by assumption)
                       go_roundw
                       case rel => exact ⟨k + 1, by omega, by go_num, (HT.out.alloc _).drew, upto_succ HX.out hgood HNO.out⟩
                       case measure => simp [intOf]; omega)
                · have P4 : Hid (fb (strOk) c.strings = -1) := Lib.hid (fb_end HC.out.ng.1 (fun j y hj => HNO.out j y (by omega)))
                  have f2 := HT.out.c5
                  have T0 := HT
                  clear HT HNO
                  go_wp2
                  clear f2
                  go_loopw [138] (fun i wr => ∃ k : Nat, k ≤ h.r.n ∧ i = .int .i64 k ∧ TInv w.heap.size h w wr ∧ ∀ (j : Nat) (y : RealD), j < k → c.reals[j]? = some y → realOk y = true) (fun i _ => h.r.n - (intOf i).toNat)
                  case atStart => exact ⟨0, by omega, rfl, T0.out, fun j y hj => by omega⟩
                  case round =>
                    obtain ⟨k, hk, rfl, hT, hno⟩ := hrel
                    have HT := Lib.hid hT
                    have HNO := Lib.hid hno
                    clear hno hT T0
                    by_cases hlt : k < h.r.n
                    · have hn : h.r.n ≤ 140737488351232 := HC.out.nr.2
                      obtain ⟨ad, x, had, hx, hab, hc⟩ := Reads.elem (f := RealD.cells) (fun _ => rfl) (HC.out.r.below HT.out.b) HC.out.nr.1 hlt
                      have c0 := hc 0 _ (by omega) rfl
                      have c1 := hc 1 _ (by omega) rfl
                      rw [show (ad.add (k * 2)).add 0 = ad.add (k * 2) from rfl] at c0
                      rw [show (ad.add (k * 2)).add 1 = { block := (ad.add (k * 2)).block, off := (ad.add (k * 2)).off + 1 } from rfl] at c1
                      rw [had]
                      have HX := Lib.hid hx
                      clear hc hx had hab
                      have hxm : I64 x.man := (HC.out.wr x (List.mem_of_getElem? HX.out)).1
                      have HXM := Lib.hid hxm
                      clear hxm
                      go_wp2_with (go_at_call 88; refine (real_any _ _ HXM.out _).mono ?_; rintro e w' ⟨rfl, hb5⟩; have q5 := (box_below hb5 0).trans rfl; have HB5 := Lib.hid hb5; clear hb5)
                      all_goals first
                        | (have hbad : realOk x = false := by first | exact realBadA (by assumption) | exact realBadB (by assumption)
                           have hh := tab_hit (c := c) [-1, -1, -1, -1] _ k (by unfold tabFb; rw [← HL.out, P1.out, P2.out, P3.out, P4.out, fb_hit HX.out hbad HNO.out]; rfl) (by simp)
                           go_ret2
                           exact ⟨by rw [hh.1, hh.2]; rfl, ((HT.out.alloc _).to (HB5.out.mono (by have := HT.out.z; simp; omega))).b⟩)
                        | (have hgood : realOk x = true := realGood (by assumption) (by assumption)
                           go_roundw
                           case rel => exact ⟨k + 1, by omega, by go_num, (HT.out.alloc _).to (HB5.out.mono (by have := HT.out.z; simp; omega)), upto_succ HX.out hgood HNO.out⟩
                           case measure => simp [intOf]; omega)
                    · have P5 : Hid (fb (realOk) c.reals = -1) := Lib.hid (fb_end HC.out.nr.1 (fun j y hj => HNO.out j y (by omega)))
                      have f2 := HT.out.c6
                      have T0 := HT
                      clear HT HNO
                      go_wp2
                      clear f2
                      go_loopw [156] (fun i wr => ∃ k : Nat, k ≤ h.o.n ∧ i = .int .i64 k ∧ TInv w.heap.size h w wr ∧ ∀ (j : Nat) (y : Int), j < k → c.owns[j]? = some y → ownOk y = true) (fun i _ => h.o.n - (intOf i).toNat)
                      case atStart => exact ⟨0, by omega, rfl, T0.out, fun j y hj => by omega⟩
                      case round =>
                        obtain ⟨k, hk, rfl, hT, hno⟩ := hrel
                        have HT := Lib.hid hT
                        have HNO := Lib.hid hno
                        clear hno hT T0
                        by_cases hlt : k < h.o.n
                        · have hn : h.o.n ≤ 140737488351232 := HC.out.no.2
                          obtain ⟨ad, x, had, hx, hab, c0⟩ := Reads.elem1 (f := Value.int .i64) (HC.out.o.below HT.out.b) HC.out.no.1 hlt
                          rw [had]
                          have HX := Lib.hid hx
                          clear had hab hx
                          cases hv : (x != 0) with
                          | true =>
                            cases hw : tyB x with
                            | true =>
                              go_wp2_with (go_at_call 83; refine (isType_any _ _).mono ?_; rintro e w' ⟨rfl, rfl⟩)
                              go_roundw
                              case rel => exact ⟨k + 1, by omega, by go_num, HT.out, upto_succ HX.out (ownGood (.inr hw)) HNO.out⟩
                              case measure => simp [intOf]; omega
                            | false =>
                              go_wp2_with (go_at_call 83; refine (isType_any _ _).mono ?_; rintro e w' ⟨rfl, rfl⟩)
                              have hbad : ownOk x = false := ownBad hv hw
                              have hh := tab_hit (c := c) [-1, -1, -1, -1, -1] _ k (by unfold tabFb; rw [← HL.out, P1.out, P2.out, P3.out, P4.out, P5.out, fb_hit HX.out hbad HNO.out]; rfl) (by simp)
                              go_ret2
                              exact ⟨by rw [hh.1, hh.2]; rfl, HT.out.b⟩
                          | false =>
                            go_wp2_with (go_at_call 83; refine (isType_any _ _).mono ?_; rintro e w' ⟨rfl, rfl⟩)
                            go_roundw
                            case rel => exact ⟨k + 1, by omega, by go_num, HT.out, upto_succ HX.out (ownGood (.inl hv)) HNO.out⟩
                            case measure => simp [intOf]; omega
                        · have P6 : Hid (fb ownOk c.owns = -1) := Lib.hid (fb_end HC.out.no.1 (fun j y hj => HNO.out j y (by omega)))
                          go_wp2
                          have hh := tab_none (c := c) (by unfold tabFb; rw [← HL.out, P1.out, P2.out, P3.out, P4.out, P5.out, P6.out]; simp)
                          go_ret2
                          exact ⟨by rw [hh.1, hh.2]; rfl, HT.out.b⟩

end Go.Proofs.YtmfnholhhakgaaaGreatDoor
end
