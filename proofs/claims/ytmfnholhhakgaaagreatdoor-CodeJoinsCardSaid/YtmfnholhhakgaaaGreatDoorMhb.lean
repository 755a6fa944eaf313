/- Name, Operands, Op; the operation with a name. -/
import Derived.Test.YtmfnholhhakgaaaGreatDoorMha
import Derived.Lib.Hide
section
namespace Go.Proofs.YtmfnholhhakgaaaGreatDoor
open Go Go.Proofs Go.RowKit
set_option maxRecDepth 100000

def mkE (x : (List UInt8 × Int × Int × Int) × Nat) : MapEntry := { key := .int .i64 (x.2 + 1 : Nat), val := fmtVal x.1, born := x.2 }
theorem findNow_zip (n : Int) : ∀ (T : List (List UInt8 × Int × Int × Int)) (k : Nat),
    Instr.findNow (.int .i64) (.int .i64 n) ((T.zipIdx k).map mkE) k = some (if (k : Int) + 1 ≤ n then (T[(n - 1).toNat - k]?).map (fun x => ((n - 1).toNat, fmtVal x)) else none)
  | [], k => by simp [Instr.findNow]
  | x :: T, k => by
    rw [List.zipIdx_cons, List.map_cons]
    by_cases h : n = (k + 1 : Nat)
    · subst h
      have h1 : (((k + 1 : Nat) : Int) - 1).toNat = k := by omega
      simp [Instr.findNow, Instr.sameNow, mkE]
    · have hb : (n == ((k + 1 : Nat) : Int)) = false := by simp; omega
      have ih := findNow_zip n T (k + 1)
      simp only [Instr.findNow, mkE, Instr.sameNow, if_true, hb]
      rw [ih]
      by_cases h2 : (k : Int) + 1 ≤ n
      · have h3 : ((k + 1 : Nat) : Int) + 1 ≤ n := by omega
        have h4 : (n - 1).toNat - k = ((n - 1).toNat - (k + 1)) + 1 := by omega
        rw [if_pos h2, if_pos h3, h4, List.getElem?_cons_succ]
      · have h3 : ¬ ((k + 1 : Nat) : Int) + 1 ≤ n := by omega
        rw [if_neg h2, if_neg h3]

theorem fm53 : fm 53 = .map fmtEntries.toArray 53 := rfl
theorem find_fmt (n : Int) : Instr.findNow (.int .i64) (.int .i64 n) fmtEntries 0 = some ((opAt n).map fun x => ((n - 1).toNat, fmtVal x)) := by
  have h := findNow_zip n fmtTab 0
  have e : fmtEntries = (fmtTab.zipIdx 0).map mkE := rfl
  rw [e, h]
  unfold opAt
  by_cases h1 : (1 : Int) ≤ n
  · rw [if_pos (by omega), if_pos h1]; rfl
  · rw [if_neg (by omega), if_neg h1]; rfl
/-- The value that a look-up in the map of code.formats gives. -/
def fmtAgg (n : Int) : Value := .agg #[.string (opName n), .int .i64 (opK0 n), .int .i64 (opK1 n), .int .i64 (opK2 n)]
theorem zero85 (w : World) : (zeroValue 85).run Tryz.prog w = .ok (.agg #[.string ⟨#[]⟩, .int .i64 0, .int .i64 0, .int .i64 0]) w := by kernel_rfl
theorem look_fmt {w : World} {b : Nat} (hb : w.heap[b]? = some (fm 53)) (n : Int) :
    (Instr.lookup 79 (.map (some b)) (.int .i64 n) true).run Tryz.prog w = .ok (.tuple #[.agg #[.string (opName n), .int .i64 (opK0 n), .int .i64 (opK1 n), .int .i64 (opK2 n)], .bool (opIs n)]) w := by
  rw [fm53] at hb
  have hf := find_fmt n
  unfold opName opK0 opK1 opK2 opIs
  cases h : opAt n with
  | none =>
    rw [h] at hf
    exact run_lookup_no Tryz.underlying79 Tryz.underlying3 w hb n (zero85 w) (hf.trans rfl) true
  | some x =>
    rw [h] at hf
    exact run_lookup_ok Tryz.underlying79 Tryz.underlying3 w hb n (hf.trans rfl) true
theorem look_fmt1 {w : World} {b : Nat} (hb : w.heap[b]? = some (fm 53)) (n : Int) :
    (Instr.lookup 79 (.map (some b)) (.int .i64 n) false).run Tryz.prog w = .ok (.agg #[.string (opName n), .int .i64 (opK0 n), .int .i64 (opK1 n), .int .i64 (opK2 n)]) w := by
  rw [fm53] at hb
  have hf := find_fmt n
  unfold opName opK0 opK1 opK2
  cases h : opAt n with
  | none =>
    rw [h] at hf
    exact run_lookup_no Tryz.underlying79 Tryz.underlying3 w hb n (zero85 w) (hf.trans rfl) false
  | some x =>
    rw [h] at hf
    exact run_lookup_ok Tryz.underlying79 Tryz.underlying3 w hb n (hf.trans rfl) false

def manyN (a b c : Int) : Int := if a = 0 then 0 else if b = 0 then 1 else if c = 0 then 2 else 3
theorem ret_int {k : IntKind} {a b : Int} (h : a = b) : Ending.returned (.int k a) = .returned (.int k b) := by rw [h]
set_option maxHeartbeats 1000000 in
theorem many_any (s : ByteArray) (a b c : Int) (w : World) : Calls Tryz.prog 76 #[.agg #[.string s, .int .i64 a, .int .i64 b, .int .i64 c]] w
    fun e w' => e = .returned (.int .i64 (manyN a b c)) ∧ Below w.heap.size w w' := by
  have hb := (Below.refl w.heap.size w).alloc (Nat.le_refl _) (.cells #[.string s, .int .i64 a, .int .i64 b, .int .i64 c] 85)
  go_enter Tryz.func76, Tryz.ntmps76
  go_wp2
  go_loop [3] (fun n => ∃ k : Nat, k ≤ 3 ∧ n = .int .i64 k ∧ (0 < k → a ≠ 0) ∧ (1 < k → b ≠ 0) ∧ (2 < k → c ≠ 0)) (fun n => 3 - (intOf n).toNat)
  case atStart => exact ⟨0, by omega, rfl, by omega, by omega, by omega⟩
  case round =>
    obtain ⟨k, hk, rfl, h0, h1, h2⟩ := hrel
    match k, hk with
    | 0, _ =>
      go_wp2
      · go_round
        case rel => exact ⟨1, by omega, by go_num, by simp_all, by omega, by omega⟩
        case measure => simp [intOf]
      · go_ret
        exact ⟨ret_int (by unfold manyN; simp_all), hb⟩
    | 1, _ =>
      go_wp2
      · go_round
        case rel => exact ⟨2, by omega, by go_num, by simp_all, by simp_all, by omega⟩
        case measure => simp [intOf]
      · go_ret
        exact ⟨ret_int (by unfold manyN; simp_all), hb⟩
    | 2, _ =>
      go_wp2
      · go_round
        case rel => exact ⟨3, by omega, by go_num, by simp_all, by simp_all, by simp_all⟩
        case measure => simp [intOf]
      · go_ret
        exact ⟨ret_int (by unfold manyN; simp_all), hb⟩
    | 3, _ =>
      go_wp2
      go_ret
      exact ⟨ret_int (by unfold manyN; simp_all), hb⟩

set_option maxHeartbeats 1000000 in
theorem Name_any (n : Int) (w : World) : Calls Tryz.prog 25 #[.int .i64 n] w fun e w' => e = .returned (.tuple #[.string (opName n), .int .i64 (if opIs n then 0 else 1)]) ∧ Below w.heap.size w w' := by
  have hl := look_fmt (w := w.alloc (fm 53)) (b := w.heap.size) (heap_alloc_new w _) n
  have hb : ∀ o1 o2, Below w.heap.size w ((w.alloc o1).alloc o2) := fun o1 o2 => ((Below.refl w.heap.size w).alloc (Nat.le_refl _) o1).alloc (by simp) o2
  cases hi : opIs n with
  | true =>
    rw [hi] at hl
    go_enter Tryz.func25, Tryz.ntmps25
    go_wp2_with (go_at_call 44; refine (FmtIns.formats_any _).mono ?_; rintro e w' ⟨rfl, rfl⟩)
    go_ret2
    exact ⟨rfl, hb _ _⟩
  | false =>
    rw [hi] at hl
    have hn : opName n = ⟨#[]⟩ := by
      unfold opIs at hi; unfold opName
      cases h : opAt n with
      | none => rfl
      | some x => rw [h] at hi; cases hi
    rw [hn] at hl ⊢
    go_enter Tryz.func25, Tryz.ntmps25
    go_wp2_with (go_at_call 44; refine (FmtIns.formats_any _).mono ?_; rintro e w' ⟨rfl, rfl⟩)
    go_ret2
    exact ⟨rfl, hb _ _⟩

set_option maxHeartbeats 1000000 in
theorem Operands_any (n : Int) (w : World) : Calls Tryz.prog 26 #[.int .i64 n] w fun e w' => e = .returned (.tuple #[.int .i64 (if opIs n then manyN (opK0 n) (opK1 n) (opK2 n) else 0), .int .i64 (if opIs n then 0 else 1)]) ∧ Below w.heap.size w w' := by
  have hl := look_fmt (w := w.alloc (fm 53)) (b := w.heap.size) (heap_alloc_new w _) n
  have hb : ∀ o1 o2, Below w.heap.size w ((w.alloc o1).alloc o2) := fun o1 o2 => ((Below.refl w.heap.size w).alloc (Nat.le_refl _) o1).alloc (by simp) o2
  cases hi : opIs n with
  | true =>
    rw [hi] at hl
    go_enter Tryz.func26, Tryz.ntmps26
    go_wp2_with (first
      | (go_at_call 44; refine (FmtIns.formats_any _).mono ?_; rintro e w' ⟨rfl, rfl⟩)
      | (go_at_call 76; refine (many_any _ _ _ _ _).mono ?_; rintro e w' ⟨rfl, hb1⟩))
    go_ret2
    exact ⟨rfl, (hb _ _).trans (hb1.mono (by simp; omega))⟩
  | false =>
    rw [hi] at hl
    go_enter Tryz.func26, Tryz.ntmps26
    go_wp2_with (go_at_call 44; refine (FmtIns.formats_any _).mono ?_; rintro e w' ⟨rfl, rfl⟩)
    go_ret2
    exact ⟨rfl, hb _ _⟩
end Go.Proofs.YtmfnholhhakgaaaGreatDoor
end
section
namespace Go.Proofs.YtmfnholhhakgaaaGreatDoor
open Go Go.Proofs Go.RowKit
set_option maxRecDepth 100000

/-- The number of the operation with a name; 0 if there is none. -/
def opNum (s : ByteArray) : Int := (((fmtTab.map (·.1)).findIdx? (· == s.data.toList)).map fun i => ((i + 1 : Nat) : Int)).getD 0
theorem names_nodup : (fmtTab.map (·.1)).Nodup := by decide +kernel
theorem opName_list (k : Nat) : (opName (k + 1 : Nat)).data.toList = ((fmtTab.map (·.1))[k]?).getD [] := by
  rw [opName_nat, List.getElem?_map]
theorem opNum_hit (s : ByteArray) (k : Nat) (hk : k < 53) (h : opName (k + 1 : Nat) = s) : opNum s = (k + 1 : Nat) := by
  have hl : (fmtTab.map (·.1)).length = 53 := rfl
  have hg : (fmtTab.map (·.1))[k]? = some ((fmtTab.map (·.1))[k]'(by omega)) := List.getElem?_eq_getElem _
  have he : s.data.toList = (fmtTab.map (·.1))[k]'(by omega) := by rw [← h, opName_list, hg]; rfl
  unfold opNum
  have : (fmtTab.map (·.1)).findIdx? (· == s.data.toList) = some k := by
    rw [List.findIdx?_eq_some_iff_getElem]
    refine ⟨by omega, by simp [he], fun j hj => ?_⟩
    have := (List.nodup_iff_pairwise_ne.1 names_nodup)
    rw [List.pairwise_iff_getElem] at this
    have hne := this j k (by omega) (by omega) hj
    simp only [he]
    simpa using hne
  rw [this]; rfl
theorem opNum_miss (s : ByteArray) (h : ∀ k : Nat, k < 53 → opName (k + 1 : Nat) ≠ s) : opNum s = 0 := by
  have hl : (fmtTab.map (·.1)).length = 53 := rfl
  unfold opNum
  have : (fmtTab.map (·.1)).findIdx? (· == s.data.toList) = none := by
    rw [List.findIdx?_eq_none_iff]
    intro x hx
    obtain ⟨k, hk, rfl⟩ := List.mem_iff_getElem.1 hx
    have h1 := h k (by omega)
    have hg : (fmtTab.map (·.1))[k]? = some ((fmtTab.map (·.1))[k]'hk) := List.getElem?_eq_getElem _
    have h2 : (opName (k + 1 : Nat)).data.toList = (fmtTab.map (·.1))[k]'hk := by rw [opName_list, hg]; rfl
    rw [← h2]
    cases hb : (opName (k + 1 : Nat)).data.toList == s.data.toList with
    | false => rfl
    | true =>
      exfalso; apply h1
      have := beq_iff_eq.1 hb
      cases s with | mk d => 
      cases hh : opName (k + 1 : Nat) with | mk e => 
      rw [hh] at this
      congr 1
      exact Array.toList_inj.1 this
  rw [this]; rfl

theorem bytes_eq {a b : ByteArray} (h : (a.toList == b.toList) = true) : a = b := by
  have h1 := beq_iff_eq.1 h
  cases a with | mk a =>
  cases b with | mk b =>
  cases a with | mk a =>
  cases b with | mk b =>
  rw [ByteArray.toList_mk, ByteArray.toList_mk] at h1
  exact WideShapes.bytes_inj h1
theorem bytes_ne {a b : ByteArray} (h : (a.toList == b.toList) = false) : a ≠ b := by
  rintro rfl
  simp at h
set_option maxHeartbeats 1000000 in
theorem Operation_any (s : ByteArray) (w : World) : Calls Tryz.prog 31 #[.string s] w fun e w' => e = .returned (.int .i64 (opNum s)) ∧ Below w.heap.size w w' := by
  have hb : ∀ o, Below w.heap.size w (w.alloc o) := fun o => (Below.refl w.heap.size w).alloc (Nat.le_refl _) o
  go_enter Tryz.func31, Tryz.ntmps31
  go_wp2_with (go_at_call 28; refine (names_any _).mono ?_; rintro e w' ⟨rfl, rfl⟩)
  go_loop [4] (fun i => ∃ k : Nat, k ≤ 53 ∧ i = .int .i64 k ∧ ∀ j, j < k → opName (j + 1 : Nat) ≠ s) (fun i => 53 - (intOf i).toNat)
  case atStart => exact ⟨0, by omega, rfl, fun j hj => by omega⟩
  case round =>
    obtain ⟨k, hk, rfl, hno⟩ := hrel
    have HN := Lib.hid hno
    clear hno
    by_cases hlt : k < 53
    · have hc := names_cell w k hlt
      obtain ⟨t, ht⟩ : ∃ t, t = opName (k + 1 : Nat) := ⟨_, rfl⟩
      rw [← ht] at hc
      have HT := Lib.hid ht
      clear ht
      go_wp2
      · have heq : (t.toList == s.toList) = true := by assumption
        go_ret
        refine ⟨ret_int ?_, hb _⟩
        rw [opNum_hit s k hlt (HT.out.symm.trans (bytes_eq heq))]
        rfl
      · have heq : (t.toList == s.toList) = false := by assumption
        go_round
        case rel => exact ⟨k + 1, by omega, by go_num, fun j hj => by
          rcases Nat.lt_succ_iff_lt_or_eq.1 hj with h | rfl
          · exact HN.out j h
          · rw [← HT.out]; exact bytes_ne heq⟩
        case measure => simp [intOf]; omega
    · obtain rfl : k = 53 := by omega
      go_wp2
      go_ret
      exact ⟨ret_int (opNum_miss s HN.out).symm, hb _⟩

/-- How many of the first 53 stamps have not been seen. -/
def leftN (seen : Array Nat) : Nat := ((List.range 53).filter fun k => !seen.contains k).length
theorem leftN_push (seen : Array Nat) (k : Nat) (hk : k < 53) (h : k ∉ seen) : leftN (seen.push k) < leftN seen := by
  unfold leftN
  refine filter_lt (fun k => !seen.contains k) (fun k' => !(seen.push k).contains k') ?_ k (by simpa using h) (by simp) _ (List.mem_range.2 hk)
  intro x hx
  simp at hx ⊢
  exact hx.1
theorem fmt_born : (fmtEntries.map (·.born)) = List.range 53 := by decide +kernel
theorem fmt_mem (e : MapEntry) (he : e ∈ fmtEntries) : ∃ k, k < 53 ∧ e.key = .int .i64 (k + 1 : Nat) ∧ e.val = .agg #[.string (opName (k + 1 : Nat)), .int .i64 (opK0 (k + 1 : Nat)), .int .i64 (opK1 (k + 1 : Nat)), .int .i64 (opK2 (k + 1 : Nat))] ∧ e.born = k := by
  obtain ⟨k, hk, rfl⟩ := List.mem_iff_getElem.1 he
  have hl : fmtEntries.length = 53 := by simp [fmtEntries, fmtTab_length]
  have hk' : k < fmtTab.length := by rw [fmtTab_length]; omega
  refine ⟨k, by omega, ?_⟩
  have hx : opAt ((k + 1 : Nat) : Int) = some fmtTab[k] := by
    unfold opAt
    rw [if_pos (by omega)]
    have : (((k + 1 : Nat) : Int) - 1).toNat = k := by omega
    rw [this, List.getElem?_eq_getElem hk']
  unfold opName opK0 opK1 opK2
  rw [hx]
  simp [fmtEntries, fmtVal]

def numErr (n : Int) : Int := if n = 0 then 1 else 0
set_option maxHeartbeats 2000000 in
theorem Op_any (s : ByteArray) (w : World) : Calls Tryz.prog 30 #[.string s] w fun e w' => e = .returned (.tuple #[.int .i64 (opNum s), .int .i64 (numErr (opNum s))]) ∧ Below w.heap.size w w' := by
  have hm0 : (w.alloc (fm 53)).heap[w.heap.size]? = some (.map fmtEntries.toArray 53) := heap_alloc_new w _
  have hr := run_range_map (P := Tryz.prog) (w.alloc (fm 53)) 79 3 85 w.heap.size _ _ Tryz.underlying79 hm0
  rw [World.size_alloc] at hr
  have hb0 : ∀ o, Below w.heap.size w ((w.alloc (fm 53)).alloc o) := fun o => ((Below.refl w.heap.size w).alloc (Nat.le_refl _) _).alloc (by simp) o
  go_enter Tryz.func30, Tryz.ntmps30
  go_wp2_with (go_at_call 44; refine (FmtIns.formats_any _).mono ?_; rintro e w' ⟨rfl, rfl⟩)
  go_loopw [4] (fun _ wr => ∃ seen c0, wr.heap[w.heap.size + 1]? = some (.mapIter (some w.heap.size) 53 seen c0) ∧ wr.heap[w.heap.size]? = some (fm 53) ∧ 53 ≤ c0 ∧ (∀ k : Nat, k < 53 → k ∈ seen → opName (k + 1 : Nat) ≠ s) ∧ Below w.heap.size w wr ∧ w.heap.size + 2 ≤ wr.heap.size)
    (fun _ wr => leftN (wr.iterSeen (w.heap.size + 1)))
  case atStart => exact ⟨#[], 53, by have := heap_alloc_new (w.alloc (fm 53)) (Obj.mapIter (some w.heap.size) 53 #[] 53); simpa using this, (heap_alloc_old (w.alloc (fm 53)) _ (by simp)).trans (heap_alloc_new w _), by omega, by simp, hb0 _, by simp⟩
  case round =>
    obtain ⟨seen, c0, hit, hmp, hc0, hno, hbw, hsz⟩ := hrel
    rw [fm53] at hmp
    have HN := Lib.hid hno
    clear hno hr
    have HI := Lib.hid hit
    have HM := Lib.hid hmp
    have hborn : (fmtEntries.toArray.toList.map (·.born)) = List.range 53 := fmt_born
    have HB := Lib.hid hborn
    clear hborn hit hmp hm0
    go_wp2_with (at_next; refine wpList_next_at _ rfl _ rfl rfl HI.out HM.out (by omega) ?_ hc0 ?_ ?_ ?_)
    · intro x hx
      obtain ⟨k, hk, _, _, hb⟩ := fmt_mem x (by simpa using hx)
      omega
    · rw [HB.out]; exact List.nodup_range
    · intro hall
      have HA := Lib.hid hall
      clear hall
      go_wp2
      go_ret2
      have : opNum s = 0 := opNum_miss s fun k hk => HN.out k hk (by
        have : k ∈ (fmtEntries.toArray.toList.map (·.born)) := by rw [HB.out]; simpa using hk
        obtain ⟨x, hx, rfl⟩ := List.mem_map.1 this
        exact HA.out x hx)
      exact ⟨by first | rfl | (rw [this]; rfl), hbw⟩
    · intro e he hns w' hit' hg' hs' hen
      obtain ⟨k, hk, hkey, hval, hbk⟩ := fmt_mem e (by simpa using he)
      rw [hkey, hval] at hen ⊢
      rw [hbk] at hns hit'
      have HI' := Lib.hid hit'
      have HG := Lib.hid hg'
      have HS := Lib.hid hs'
      clear hit' hg' hs' hkey hval hbk he
      have hmp' : w'.heap[w.heap.size]? = some (fm 53) := (HG.out.block w.heap.size (by omega) (by simp)).trans HM.out
      have HMP := Lib.hid hmp'
      clear hmp'
      go_wp2
      · have heq : ((opName ((k : Int) + 1)).toList == s.toList) = true := by assumption
        go_ret2
        have h1 : opNum s = (k + 1 : Nat) := opNum_hit s k hk (bytes_eq heq)
        exact ⟨by rw [h1, show numErr ((k + 1 : Nat) : Int) = 0 from if_neg (by omega)]; rfl, (hbw.trans ((Below.grown (Below.refl _ _) HG.out (by omega) (fun j e => by cases e; omega)))).trans ((Below.refl _ _).alloc (by rw [HS.out]; omega) _)⟩
      · have heq : ((opName ((k : Int) + 1)).toList == s.toList) = false := by assumption
        go_roundw
        case rel => exact ⟨seen.push k, 53, by rw [heap_alloc_old _ _ (by rw [HS.out]; omega)]; exact HI'.out, by rw [heap_alloc_old _ _ (by rw [HS.out]; omega)]; exact HMP.out, by omega, fun j hj hm => by
          rcases Array.mem_push.1 hm with h | rfl
          · exact HN.out j hj h
          · exact bytes_ne heq, (hbw.trans ((Below.grown (Below.refl _ _) HG.out (by omega) (fun j e => by cases e; omega)))).trans ((Below.refl _ _).alloc (by rw [HS.out]; omega) _), by simp [HS.out]; omega⟩
        case measure =>
          have e1 : wr.iterSeen (w.heap.size + 1) = seen := by unfold World.iterSeen; rw [HI.out]
          have e2 : ∀ o, (w'.alloc o).iterSeen (w.heap.size + 1) = seen.push k := fun o => by unfold World.iterSeen; rw [heap_alloc_old _ _ (by rw [HS.out]; omega), HI'.out]
          rw [e1, e2]
          exact leftN_push seen k hk hns
end Go.Proofs.YtmfnholhhakgaaaGreatDoor
end
