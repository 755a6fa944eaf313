/- CodeNames: its walk, and its statement lifted. Condition: the seven listed library variables hold what the text of the program lays (the card ties them). -/
import Derived.Test.YtmfnholhhakgaaaGreatDoorMgd
import Derived.Test.YtmfnholhhakgaaaGreatDoorMhb
import Derived.Test.YtmfnholhhakgaaaGreatDoorCards
import Derived.Test.YtmfnholhhakgaaaGreatDoorTie
import Derived.WalkKit
import Derived.ProofKit
import Derived.OpenShut
import Derived.Deep.DeepHandedRow
import Derived.Deep.DeepWitnessRowRef
import Derived.Lib.LaidTab
import Derived.Stop.LaidErr
import Derived.Shelf.Vars
import Derived.Lay
section
namespace Go.Proofs.YtmfnholhhakgaaaGreatDoor
open Go Go.Proofs Go.RowKit Go.Sort
set_option maxRecDepth 100000
set_option maxHeartbeats 1000000
/-- For each number: how many operands the operation has, by the two tables. -/
theorem many_k (k : Nat) (hk : k < 53) : manyN (opK0 (k + 1 : Nat)) (opK1 (k + 1 : Nat)) (opK2 (k + 1 : Nat)) = ((kStr (k + 1 : Nat)).size : Int) := by
  have hall : (List.range 53).all (fun k => decide (manyN (opK0 (k + 1 : Nat)) (opK1 (k + 1 : Nat)) (opK2 (k + 1 : Nat)) = ((kStr (k + 1 : Nat)).size : Int))) = true := by decide +kernel
  exact of_decide_eq_true (List.all_eq_true.1 hall k (List.mem_range.2 hk))
theorem CodeNames_long (op : Int) (s : ByteArray) (w : World) (hv : Vars w.heap.size w) (hs : (100 : Int) < s.size) : Calls Tryz.prog 8 #[.int .i64 op, .string s] w fun e w' => e = .returned (.bool true) ∧ Below w.heap.size w w' := by
  have HV := Lib.hid hv
  clear hv
  go_enter Tryz.func8, Tryz.ntmps8
  go_wp2_with (first | (go_at_call 13; refine (sanity_ok _ HV.out).mono ?_; rintro e w1 ⟨rfl, hb⟩; have HB := Lib.hid hb; clear hb))
  go_ret
  exact ⟨rfl, HB.out⟩
theorem CodeNames_bad (op : Int) (s : ByteArray) (w : World) (hv : Vars w.heap.size w) (hs : ¬ (100 : Int) < s.size) (hi : opIs op = false) : Calls Tryz.prog 8 #[.int .i64 op, .string s] w fun e w' => e = .returned (.bool true) ∧ Below w.heap.size w w' := by
  have HV := Lib.hid hv
  have hr : (decide (1 ≤ op) && decide (op ≤ 53)) = false := by
    cases h : (decide (1 ≤ op) && decide (op ≤ 53)) with
    | false => rfl
    | true => rw [Bool.and_eq_true, decide_eq_true_eq, decide_eq_true_eq] at h; rw [(opIs_iff op).2 h] at hi; cases hi
  have hn : opName op = ⟨#[]⟩ := by
    unfold opIs at hi
    unfold opName
    cases h : opAt op with
    | none => rfl
    | some x => rw [h] at hi; cases hi
  have HI := Lib.hid hi
  have HR := Lib.hid hr
  have HN := Lib.hid hn
  clear hv hr hn hi
  by_cases h0 : opNum s = 0
  · have H0 := Lib.hid h0
    clear h0
    go_enter Tryz.func8, Tryz.ntmps8
    go_wp2_with (first
      | (go_at_call 25; refine (Name_any op _).mono ?_; rintro e w1 ⟨rfl, hb⟩; have B1 := Lib.hid hb; clear hb; rw [HN.out, HI.out, if_neg Bool.false_ne_true])
      | (go_at_call 26; refine (Operands_any op _).mono ?_; rintro e w2 ⟨rfl, hb⟩; have B2 := Lib.hid (B1.out.trans (hb.mono B1.out.size)); clear hb; rw [HI.out, if_neg Bool.false_ne_true, if_neg Bool.false_ne_true])
      | (go_at_call 27; refine (isop_any op _).mono ?_; rintro e w3 ⟨rfl, rfl⟩; rw [HR.out])
      | (go_at_call 30; refine (Op_any s _).mono ?_; rintro e w3 ⟨rfl, hb⟩; have B3 := Lib.hid (B2.out.trans (hb.mono B2.out.size)); clear hb; rw [H0.out, show numErr 0 = 1 from rfl])
      | (go_at_call 31; refine (Operation_any s _).mono ?_; rintro e w4 ⟨rfl, hb⟩; have B4 := Lib.hid (B3.out.trans (hb.mono B3.out.size)); clear hb; rw [H0.out])
      | (go_at_call 13; refine (sanity_ok _ (HV.out.at B4.out B4.out.size)).mono ?_; rintro e w5 ⟨rfl, hb⟩; have B5 := Lib.hid (B4.out.trans (hb.mono B4.out.size)); clear hb))
    go_ret
    exact ⟨rfl, B5.out⟩
  · obtain ⟨N, hN⟩ : ∃ N, opNum s = N := ⟨_, rfl⟩
    have HNE : Hid (numErr (opNum s) = 0) := Lib.hid (if_neg h0)
    have HN0 := Lib.hid hN
    rw [hN] at h0
    have h0b : (N == 0) = false := by simpa using h0
    clear hN
    go_enter Tryz.func8, Tryz.ntmps8
    go_wp2_with (first
      | (go_at_call 25; refine (Name_any op _).mono ?_; rintro e w1 ⟨rfl, hb⟩; have B1 := Lib.hid hb; clear hb; rw [HN.out, HI.out, if_neg Bool.false_ne_true])
      | (go_at_call 26; refine (Operands_any op _).mono ?_; rintro e w2 ⟨rfl, hb⟩; have B2 := Lib.hid (B1.out.trans (hb.mono B1.out.size)); clear hb; rw [HI.out, if_neg Bool.false_ne_true, if_neg Bool.false_ne_true])
      | (go_at_call 27; refine (isop_any op _).mono ?_; rintro e w3 ⟨rfl, rfl⟩; rw [HR.out])
      | (go_at_call 30; refine (Op_any s _).mono ?_; rintro e w3 ⟨rfl, hb⟩; have B3 := Lib.hid (B2.out.trans (hb.mono B2.out.size)); clear hb; rw [HNE.out]; rw [show opNum s = N from HN0.out])
      | (go_at_call 31; refine (Operation_any s _).mono ?_; rintro e w4 ⟨rfl, hb⟩; have B4 := Lib.hid (B3.out.trans (hb.mono B3.out.size)); clear hb; rw [show opNum s = N from HN0.out])
      | (go_at_call 13; refine (sanity_ok _ (HV.out.at B4.out B4.out.size)).mono ?_; rintro e w5 ⟨rfl, hb⟩; have B5 := Lib.hid (B4.out.trans (hb.mono B4.out.size)); clear hb))
    go_ret
    exact ⟨rfl, B5.out⟩
theorem CodeNames_good (k : Nat) (hk : k < 53) (s : ByteArray) (w : World) (hv : Vars w.heap.size w) (hs : ¬ (100 : Int) < s.size) : Calls Tryz.prog 8 #[.int .i64 (k + 1 : Nat), .string s] w fun e w' => e = .returned (.bool true) ∧ Below w.heap.size w w' := by
  have HV := Lib.hid hv
  have HI := Lib.hid ((opIs_iff (k + 1 : Nat)).2 ⟨by omega, by omega⟩)
  have hr : (decide ((1 : Int) ≤ ((k + 1 : Nat) : Int)) && decide (((k + 1 : Nat) : Int) ≤ 53)) = true := by
    rw [Bool.and_eq_true, decide_eq_true_eq, decide_eq_true_eq]
    omega
  have HR := Lib.hid hr
  have HM := Lib.hid (many_k k hk)
  obtain ⟨t, ht⟩ : ∃ t, opName (k + 1 : Nat) = t := ⟨_, rfl⟩
  have HT := Lib.hid ht
  clear hv hr ht
  by_cases h0 : opNum s = 0
  · have H0 := Lib.hid h0
    clear h0
    go_enter Tryz.func8, Tryz.ntmps8
    go_wp2_with (first
      | (go_at_call 25; refine (Name_any (k + 1 : Nat) _).mono ?_; rintro e w1 ⟨rfl, hb⟩; have B1 := Lib.hid hb; clear hb; rw [HI.out, if_pos rfl, HT.out])
      | (go_at_call 26; refine (Operands_any (k + 1 : Nat) _).mono ?_; rintro e w2 ⟨rfl, hb⟩; have B2 := Lib.hid (B1.out.trans (hb.mono B1.out.size)); clear hb; rw [HI.out, if_pos rfl, if_pos rfl, HM.out])
      | (go_at_call 27; refine (isop_any (k + 1 : Nat) _).mono ?_; rintro e w3 ⟨rfl, rfl⟩; rw [HR.out])
      | (go_at_call 28; refine (names_any _).mono ?_; rintro e w3 ⟨rfl, rfl⟩; have hcell := names_cell w2 k hk; rw [HT.out] at hcell; have B2' := Lib.hid (B2.out.alloc B2.out.size namesObj))
      | (go_at_call 29; refine (refOperands_any (k + 1 : Nat) (by omega) (by omega) _).mono ?_; rintro e w4 ⟨rfl, hb⟩; have B3' := Lib.hid (B2'.out.trans (hb.mono B2'.out.size)); clear hb hcell)
      | (go_at_call 30; refine (Op_any s _).mono ?_; rintro e w3 ⟨rfl, hb⟩; have B3 := Lib.hid (B3'.out.trans (hb.mono B3'.out.size)); clear hb; rw [H0.out, show numErr 0 = 1 from rfl])
      | (go_at_call 31; refine (Operation_any s _).mono ?_; rintro e w4 ⟨rfl, hb⟩; have B4 := Lib.hid (B3.out.trans (hb.mono B3.out.size)); clear hb; rw [H0.out])
      | (go_at_call 13; refine (sanity_ok _ (HV.out.at B4.out B4.out.size)).mono ?_; rintro e w5 ⟨rfl, hb⟩; have B5 := Lib.hid (B4.out.trans (hb.mono B4.out.size)); clear hb))
    go_ret
    exact ⟨rfl, B5.out⟩
  · obtain ⟨N, hN⟩ : ∃ N, opNum s = N := ⟨_, rfl⟩
    have HNE : Hid (numErr (opNum s) = 0) := Lib.hid (if_neg h0)
    have HN0 := Lib.hid hN
    rw [hN] at h0
    have h0b : (N == 0) = false := by simpa using h0
    clear hN
    go_enter Tryz.func8, Tryz.ntmps8
    go_wp2_with (first
      | (go_at_call 25; refine (Name_any (k + 1 : Nat) _).mono ?_; rintro e w1 ⟨rfl, hb⟩; have B1 := Lib.hid hb; clear hb; rw [HI.out, if_pos rfl, HT.out])
      | (go_at_call 26; refine (Operands_any (k + 1 : Nat) _).mono ?_; rintro e w2 ⟨rfl, hb⟩; have B2 := Lib.hid (B1.out.trans (hb.mono B1.out.size)); clear hb; rw [HI.out, if_pos rfl, if_pos rfl, HM.out])
      | (go_at_call 27; refine (isop_any (k + 1 : Nat) _).mono ?_; rintro e w3 ⟨rfl, rfl⟩; rw [HR.out])
      | (go_at_call 28; refine (names_any _).mono ?_; rintro e w3 ⟨rfl, rfl⟩; have hcell := names_cell w2 k hk; rw [HT.out] at hcell; have B2' := Lib.hid (B2.out.alloc B2.out.size namesObj))
      | (go_at_call 29; refine (refOperands_any (k + 1 : Nat) (by omega) (by omega) _).mono ?_; rintro e w4 ⟨rfl, hb⟩; have B3' := Lib.hid (B2'.out.trans (hb.mono B2'.out.size)); clear hb hcell)
      | (go_at_call 30; refine (Op_any s _).mono ?_; rintro e w3 ⟨rfl, hb⟩; have B3 := Lib.hid (B3'.out.trans (hb.mono B3'.out.size)); clear hb; rw [HNE.out]; rw [show opNum s = N from HN0.out])
      | (go_at_call 31; refine (Operation_any s _).mono ?_; rintro e w4 ⟨rfl, hb⟩; have B4 := Lib.hid (B3.out.trans (hb.mono B3.out.size)); clear hb; rw [show opNum s = N from HN0.out])
      | (go_at_call 13; refine (sanity_ok _ (HV.out.at B4.out B4.out.size)).mono ?_; rintro e w5 ⟨rfl, hb⟩; have B5 := Lib.hid (B4.out.trans (hb.mono B4.out.size)); clear hb))
    go_ret
    exact ⟨rfl, B5.out⟩
/-- For each number and each string: CodeNames answers true. -/
theorem CodeNames_any (op : Int) (s : ByteArray) (w : World) (hv : Vars w.heap.size w) : Calls Tryz.prog 8 #[.int .i64 op, .string s] w fun e w' => e = .returned (.bool true) ∧ Below w.heap.size w w' := by
  by_cases hs : (100 : Int) < s.size
  · exact CodeNames_long op s w hv hs
  · cases hi : opIs op with
    | false => exact CodeNames_bad op s w hv hs hi
    | true =>
      obtain ⟨h1, h2⟩ := (opIs_iff op).1 hi
      obtain ⟨k, rfl⟩ : ∃ k : Nat, op = ((k + 1 : Nat) : Int) := ⟨(op - 1).toNat, by omega⟩
      exact CodeNames_good k (by omega) s w hv hs
end Go.Proofs.YtmfnholhhakgaaaGreatDoor
end
section
namespace Go.Proofs.YtmfnholhhakgaaaGreatDoor
open Go.ChangeShapes Go.WideShapes Go.ChangeAt Go.RowKit
set_option maxRecDepth 100000

/-- A call that turns nothing of what was there, and answers plain data: what the row asks. -/
theorem post_of_below {H : Type} {enc : TypeId × Value → H} {P : Program} {f : Func} {s : ChangeSpec} {apart fresh handsOn : Bool} {W W' : World} {args : Array Value} {v : Value} {ds gs : List (DataW H)} {before pa pv : List MemPlace}
    (hW : DataW.Whole enc P f.params.toList s.vars apart W args.toList ds gs before)
    (hres : ∀ (b : Nat) (sp : Nat → Bool) (hd : Bool), DataW.TrodAll enc P W' b sp hd f.resultTypes.toList (v.resultList f.resultTypes.size) (s.fn H (ds ++ gs)).results [])
    (hargs : ∀ sp : Nat → Bool, (∀ p ∈ before, sp p.block = true) → DataW.TrodAll enc P W' 0 sp true f.params.toList args.toList (s.fn H (ds ++ gs)).args pa)
    (hvars : ∀ sp : Nat → Bool, (∀ p ∈ before, sp p.block = true) → DataW.TrodVars enc P W' sp s.vars (s.fn H (ds ++ gs)).vars pv)
    (hps : before = pa ++ pv) (hb : Below W.heap.size W W') : s.post enc P f apart fresh handsOn false W args v W' := by
  have hold : ∀ p ∈ before, (fun b => decide (b < W.heap.size)) p.block = true := fun p hp => by simpa using hW.lt p hp
  refine ⟨ds, gs, before, [], pa, pv, hW, hres _ _ _, hargs _ hold, hvars _ hold, World.keptBut_mono (fun p hp => ⟨hp, ?_⟩) (hb.frame _), fun h => (by cases h)⟩
  rw [hps, List.mem_append] at hp
  exact Or.inr hp
theorem laid_iface {P : Program} {n nm : String} {d : DataW Unit} {r : List (String × DataW Unit)} {W : World} {g : Nat} {ti : TypeId} {ms : Array (String × TypeId)}
    (h : laidMet P ((n, .iface nm d) :: r) W) (hg : P.globalNamed n = some g) (ht : (P.globals[g]?).map (·.type) = some ti) (hi : P.underlying ti = some (.interface ms)) :
    ∃ te pe, W.cell? ⟨g, 0, none⟩ = some (.iface te pe) := by
  obtain ⟨ps, ⟨g', t', cs, fuel, p, q, hg', ht', hvar, hd, _, _⟩, _⟩ := h
  obtain rfl := Option.some.inj (hg.symm.trans hg')
  obtain rfl := Option.some.inj (ht.symm.trans ht')
  obtain ⟨fuel', u, v, hcs, _⟩ := iface_of_trod hi hd
  obtain rfl : cs = #[.iface u v] := by cases cs; simp_all
  exact ⟨u, v, by simpa using World.var?_cell hg hvar 0⟩
theorem gPow : Tryz.prog.globalNamed "internal/strconv.uint64pow10" = some 1 := by kernel_rfl
theorem gPowType : (Tryz.prog.globals[1]?).map (·.type) = some 300 := by kernel_rfl
theorem gSyn : Tryz.prog.globalNamed "strconv.ErrSyntax" = some 4 := by kernel_rfl
theorem gSynType : (Tryz.prog.globals[4]?).map (·.type) = some 156 := by kernel_rfl
theorem gRng : Tryz.prog.globalNamed "strconv.ErrRange" = some 5 := by kernel_rfl
theorem gRngType : (Tryz.prog.globals[5]?).map (·.type) = some 156 := by kernel_rfl
/-- What the row's list gives: the library's variables, as the walks want them. -/
theorem vars_of {W : World} (hL : laidMetH Tryz.prog Rows.codeNamesRow.laid W) (hsh : W.ShapedOpen Tryz.prog) : Vars W.heap.size W := by
  have h0 : laidMet Tryz.prog Rows.codeNamesRow.laid W := hL
  have h2 := h0.tail.tail
  refine ⟨Lib.tabBelow_of_tabIs (Lib.tabIs_of_head gPow gPowType Tryz.underlying300 Tryz.underlying227 (by kernel_rfl) (by kernel_rfl) h2), ?_, ?_, ?_, ?_⟩
  · exact laid_iface h2.tail.tail.tail gSyn gSynType Tryz.underlying156
  · exact laid_iface h2.tail.tail gRng gRngType Tryz.underlying156
  · exact cell_of_shapedOpen_int (zero := #[.int .i64 0]) (t := 3) hsh (by rw [show Tryz.prog.globals.size = 8 from by kernel_rfl]; decide) (by kernel_rfl) rfl (by kernel_rfl) (by kernel_rfl) Tryz.underlying3
  · have hi : ((begin Tryz.prog (fun _ _ => 0) default).world.heap[7]?.bind Obj.row?).isSome = true := by kernel_rfl
    obtain ⟨⟨zero, t⟩, hz⟩ := Option.isSome_iff_exists.1 hi
    obtain ⟨cs, h1, _⟩ := hsh.1 7 zero t (by rw [show Tryz.prog.globals.size = 8 from by kernel_rfl]; decide) hz
    exact (Array.getElem?_eq_some_iff.1 h1).1

namespace codeNames
theorem own : ownKnob Tryz.prog.godebug = none := by kernel_rfl
/-- What the walk gives, for every argument. -/
theorem contract (H : Type) (enc : TypeId × Value → H) (W : World) (base : Nat) (args : Array Value) (ds gs : List (DataW H)) (before : List MemPlace)
    (hval : ∀ (j : Nat) t v, Tryz.f8.params[j]? = some t → args[j]? = some v → Value.okWide Tryz.prog W .any base t v)
    (hW : DataW.Whole enc Tryz.prog Tryz.f8.params.toList Rows.codeNamesSpec.vars false W args.toList ds gs before) (hv : Vars W.heap.size W) :
    Calls Tryz.prog 8 args W fun e W' => ∃ v, e = .returned v ∧ Rows.codeNamesSpec.post enc Tryz.prog Tryz.f8 false true false false W args v W' := by
  have hW' := hW
  obtain ⟨p, q, hA0, hV, rfl, hfz, hnd⟩ := hW
  have hA : DataW.TrodAll enc Tryz.prog W 0 (fun _ => true) true Tryz.f8.params.toList args.toList ds p := hA0
  rw [Tryz.params8] at hA hval
  obtain ⟨v0, vs0, d0, ds0, p0, q0, hargs, rfl, rfl, h0, r0⟩ := trodAll_cons hA
  obtain ⟨v1, vs1, d1, ds1, p1, q1, rfl, rfl, rfl, h1, r1⟩ := trodAll_cons r0
  obtain ⟨rfl, rfl, rfl⟩ := trodAll_nil r1
  obtain rfl : args = #[v0, v1] := by cases args; simp_all
  obtain ⟨rfl, rfl⟩ := trodVars_none hV
  obtain ⟨op, rfl, rfl, rfl, hop⟩ := open_int Tryz.underlying3 (hval 0 3 v0 rfl rfl) h0
  obtain ⟨s, rfl, rfl, rfl, hs⟩ := Go.ChangeMaps.open_string Tryz.underlying9 (hval 1 9 v1 rfl rfl) h1
  clear hA0
  simp only [List.append_nil] at hW'
  refine (CodeNames_any op s W hv).mono fun e W' ⟨he, hg⟩ => ?_
  subst he
  exact ⟨_, rfl, post_of_below (pa := []) (pv := []) hW' (fun _ _ _ => trodAll_cons_mk (shut_bool Tryz.underlying4 _) trodAll_mk0) (fun _ _ => trodAll_cons_mk (shut_int Tryz.underlying3 hop) (trodAll_cons_mk (Go.ChangeMaps.shut_string Tryz.underlying9 hs) trodAll_mk0)) (fun _ _ => rfl) rfl hg⟩
/-- A world for the witness: the listed variables hold what the text lays. -/
noncomputable def laidWorld (os : Os) : World := World.laidAll Tryz.prog os Rows.codeNamesRow.laid
theorem laid_met (os : Os) : laidMetH Tryz.prog Rows.codeNamesRow.laid ((laidWorld os).forCall (fun _ _ => 0) ⟨#[], #[.int .i64 1, .string ⟨#[]⟩], []⟩).memory :=
  laidMet_laidAll _ (by kernel_rfl) (by kernel_rfl)
theorem reads (os : Os) {H : Type} (enc : TypeId × Value → H) : ∃ places, DataW.whole enc Tryz.prog ((laidWorld os).forCall (fun _ _ => 0) ⟨#[], #[.int .i64 1, .string ⟨#[]⟩], []⟩).memory Tryz.f8.params.toList Rows.codeNamesSpec.vars false #[Value.int .i64 1, .string ⟨#[]⟩].toList 8 = some ([.lit (.int .i64 1), .lit (.string [])], [], places) :=
  ⟨[], by kernel_rfl⟩
theorem lifted (os : Os) (started : os.Started) (H : Type) (enc : TypeId × Value → H) (F : Stop.Interp) :
    ReturnsInHanded {} Tryz.checked os 8 .any ((OpenSpec.ofChange Rows.codeNamesSpec).preRow enc Tryz.prog Tryz.f8 Rows.codeNamesRow.domain false Rows.codeNamesRow.laid) (((OpenSpec.ofChange Rows.codeNamesSpec).at F).post enc Tryz.prog Tryz.f8 false true false false) := by
  obtain ⟨places, hx⟩ := reads os enc
  refine returnsInHanded_of_row (C := Tryz.checked) (s := OpenSpec.ofChange Rows.codeNamesSpec) own started (by kernel_rfl) Tryz.func8
    (witness_row_at (enc := enc) (C := Tryz.checked) false (laidWorld os) #[.int .i64 1, .string ⟨#[]⟩] (World.laidAll_os _ _ _) (by kernel_rfl) (by kernel_rfl) (by kernel_rfl)
      (OpenSpec.preRow_of_cond 8 hx (by kernel_rfl) (fun k hk => by cases hk) (by kernel_rfl) (laid_met os))) ?_
  intro W base args ds gs before hval hW _ _ _ hL hsh _
  exact contract H enc W base args ds gs before hval hW (vars_of hL hsh)
end codeNames
end Go.Proofs.YtmfnholhhakgaaaGreatDoor
end
