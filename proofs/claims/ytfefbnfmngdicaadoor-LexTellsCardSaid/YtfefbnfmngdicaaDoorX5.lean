/- shape.Name, walked by hand: whether a string is a name. -/
import Derived.Test.YtfefbnfmngdicaaDoorX1
import Derived.Test.YtfefbnfmngdicaaDoorShelf
import Derived.Test.YtfefbnfmngdicaaDoorPlain
import Derived.Deep.LoopGhost
namespace Go.Proofs.YtfefbnfmngdicaaDoor.PX
set_option linter.unusedVariables false
set_option linter.unusedSimpArgs false
open Go.RowKit Go.Proofs.YtfefbnfmngdicaaDoorW.PrintWords Go.Proofs.YtfefbnfmngdicaaDoorW.PrintLast Go.Proofs.YtfefbnfmngdicaaDoorW.PrintMore

/-- Is a byte none of a name's? -/
def nmX (x : Int) : Bool := (x != 95 && (decide (x < 48) || decide (57 < x))) && (decide (bits BinOp.or IntKind.u8 x 32 < 97) || decide (122 < bits BinOp.or IntKind.u8 x 32))
def nmAll (l : List UInt8) : Bool := l.all fun c => !nmX (c.toNat : Int)
def digI (x : Int) : Bool := decide (48 ≤ x) && decide (x ≤ 57)
/-- Is a string a name? -/
def nameOk (l : List UInt8) : Bool := match l with
  | [] => false
  | c :: r => decide (l.length ≤ 20) && !digI (c.toNat : Int) && nmAll l

set_option maxHeartbeats 2000000 in
set_option maxRecDepth 100000 in
theorem name_loop (s : ByteArray) (w : World) (h0 : 0 < s.size) (h20 : s.size ≤ 20) (B1 B2 : Bool) (e1 : decide ((48 : Int) ≤ (s[0].toNat : Int)) = B1) (e2 : decide ((s[0].toNat : Int) ≤ 57) = B2) (e12 : (B1 && B2) = false) :
    Calls Tryd.prog 29 #[.string s] w fun e w' => e = .returned (.bool (nmAll s.data.toList)) ∧ Below w.heap.size w w' := by
  have hne : s.toList ≠ [] := by
    rw [Lib.toList_data]
    intro e
    have := congrArg List.length e
    rw [sz_toList] at this
    have h2 : ([] : List UInt8).length = 0 := rfl
    omega
  have hq2 : s.toList.isEmpty = false := by rw [Bool.eq_false_iff]; intro hh; exact hne (List.isEmpty_iff.1 hh)
  have b20 : decide ((20 : Int) < (s.size : Int)) = false := decide_eq_false (by omega)
  have i1 : (0 : Int) < (s.size : Int) := by omega
  have hqe : (s.toList == []) = false := by rw [beq_eq_false_iff_ne]; exact hne
  have hbb := Lib.bytesWorld_below w 5 s
  have hcell : ∀ k (h : k < s.size), (Lib.bytesWorld w 5 s).cell? ⟨w.heap.size, k, none⟩ = some (.int .u8 (s[k].toNat : Int)) := by
    intro k h
    rw [Lib.bytesWorld_cell w 5 s k h, List.getD_eq_getElem?_getD, List.getElem?_eq_getElem (by rw [sz_toList]; exact h)]
    rfl
  go_enter Tryd.func29, Tryd.ntmps29
  cases B1 with
  | true =>
    obtain rfl : B2 = false := by simpa using e12
    go_wp2_with fail
    rw [Lib.run_convert_string_bytes w 9 52 5 s Tryd.underlying9 Tryd.underlying52 Tryd.underlying5]
    simp only [Result.andThen]
    rw [Oper.upon_value]
    go_wp2_with fail
    generalize Lib.bytesWorld w 5 s = W0 at hbb hcell
    go_loopg [25] s.size (fun n v25 wr => ∃ k : Nat, n = s.size - k ∧ v25 = .int .i64 k ∧ k ≤ s.size ∧ Aside0 (nmAll (s.data.toList.take k) = true) ∧ wr = W0)
    case atStart => exact ⟨0, rfl, rfl, by omega, ⟨rfl⟩, rfl⟩
    case round =>
      obtain ⟨k, rfl, rfl, hk, hq, rfl⟩ := hrel
      by_cases hlt : k < s.size
      · have i0 : (0 : Int) ≤ (k : Int) := by omega
        have i2 : (k : Int) < (s.size : Int) := by omega
        have q1 : IntKind.i64.wrap ((k : Int) + 1) = ((k + 1 : Nat) : Int) := by rw [w64x (by omega) (by omega)]; omega
        have ck := hcell k hlt
        have hts : s.data.toList.take (k + 1) = s.data.toList.take k ++ [s[k]] := List.take_succ_eq_append_getElem (by rw [sz_toList]; exact hlt)
        cases hx : nmX (s[k].toNat : Int) with
        | true =>
          have hall : Aside0 (nmAll s.data.toList = false) := ⟨by
            rw [Bool.eq_false_iff]
            intro ha
            have := List.all_eq_true.mp ha s[k] (by
              have : s[k] = s.data.toList[k]'(by rw [sz_toList]; exact hlt) := rfl
              rw [this]
              exact List.getElem_mem _)
            rw [hx] at this
            cases this⟩
          have hx' := hx
          unfold nmX at hx'
          have hxP := hx'
          simp only [Bool.and_eq_true, Bool.or_eq_true, Bool.and_eq_false_iff, Bool.or_eq_false_iff, bne_iff_ne, ne_eq, bne_eq_false_iff_eq, decide_eq_true_eq, decide_eq_false_iff_not] at hxP
          clear hx hts
          go_wp2_with fail
          all_goals first
          | (go_ret; rw [hall.out]; exact ⟨rfl, hbb⟩)
          | (exfalso; clear hall hbb hcell ck hq hx'; (try simp only [bne_iff_ne, ne_eq, bne_eq_false_iff_eq] at *); omega)
        | false =>
          have hq2 : Aside0 (nmAll (s.data.toList.take (k + 1)) = true) := ⟨by
            rw [hts, nmAll, List.all_append, ← nmAll, hq.out]
            simp [hx]⟩
          have hx' := hx
          unfold nmX at hx'
          have hxP := hx'
          simp only [Bool.and_eq_true, Bool.or_eq_true, Bool.and_eq_false_iff, Bool.or_eq_false_iff, bne_iff_ne, ne_eq, bne_eq_false_iff_eq, decide_eq_true_eq, decide_eq_false_iff_not] at hxP
          clear hx hts
          go_wp2_with fail
          all_goals first
          | (go_roundg (s.size - (k + 1)); (case measure => omega); (case rel => exact ⟨k + 1, rfl, rfl, by omega, hq2, rfl⟩))
          | (exfalso; clear hbb hcell ck hq hq2 hx'; (try simp only [bne_iff_ne, ne_eq, bne_eq_false_iff_eq] at *); omega)
      · have i2 : ¬ (k : Int) < (s.size : Int) := by omega
        have hall : Aside0 ((nmAll s.data.toList) = true) := ⟨by
          have := hq.out
          rw [List.take_of_length_le (by rw [sz_toList]; omega)] at this
          exact this⟩
        go_wp2_with fail
        all_goals first
        | (go_ret; rw [hall.out]; exact ⟨rfl, hbb⟩)
        | (exfalso; clear hall hbb hcell ck hq hx'; (try simp only [bne_iff_ne, ne_eq, bne_eq_false_iff_eq] at *); omega)
  | false =>
    go_wp2_with fail
    rw [Lib.run_convert_string_bytes w 9 52 5 s Tryd.underlying9 Tryd.underlying52 Tryd.underlying5]
    simp only [Result.andThen]
    rw [Oper.upon_value]
    go_wp2_with fail
    generalize Lib.bytesWorld w 5 s = W0 at hbb hcell
    go_loopg [25] s.size (fun n v25 wr => ∃ k : Nat, n = s.size - k ∧ v25 = .int .i64 k ∧ k ≤ s.size ∧ Aside0 (nmAll (s.data.toList.take k) = true) ∧ wr = W0)
    case atStart => exact ⟨0, rfl, rfl, by omega, ⟨rfl⟩, rfl⟩
    case round =>
      obtain ⟨k, rfl, rfl, hk, hq, rfl⟩ := hrel
      by_cases hlt : k < s.size
      · have i0 : (0 : Int) ≤ (k : Int) := by omega
        have i2 : (k : Int) < (s.size : Int) := by omega
        have q1 : IntKind.i64.wrap ((k : Int) + 1) = ((k + 1 : Nat) : Int) := by rw [w64x (by omega) (by omega)]; omega
        have ck := hcell k hlt
        have hts : s.data.toList.take (k + 1) = s.data.toList.take k ++ [s[k]] := List.take_succ_eq_append_getElem (by rw [sz_toList]; exact hlt)
        cases hx : nmX (s[k].toNat : Int) with
        | true =>
          have hall : Aside0 (nmAll s.data.toList = false) := ⟨by
            rw [Bool.eq_false_iff]
            intro ha
            have := List.all_eq_true.mp ha s[k] (by
              have : s[k] = s.data.toList[k]'(by rw [sz_toList]; exact hlt) := rfl
              rw [this]
              exact List.getElem_mem _)
            rw [hx] at this
            cases this⟩
          have hx' := hx
          unfold nmX at hx'
          have hxP := hx'
          simp only [Bool.and_eq_true, Bool.or_eq_true, Bool.and_eq_false_iff, Bool.or_eq_false_iff, bne_iff_ne, ne_eq, bne_eq_false_iff_eq, decide_eq_true_eq, decide_eq_false_iff_not] at hxP
          clear hx hts
          go_wp2_with fail
          all_goals first
          | (go_ret; rw [hall.out]; exact ⟨rfl, hbb⟩)
          | (exfalso; clear hall hbb hcell ck hq hx'; (try simp only [bne_iff_ne, ne_eq, bne_eq_false_iff_eq] at *); omega)
        | false =>
          have hq2 : Aside0 (nmAll (s.data.toList.take (k + 1)) = true) := ⟨by
            rw [hts, nmAll, List.all_append, ← nmAll, hq.out]
            simp [hx]⟩
          have hx' := hx
          unfold nmX at hx'
          have hxP := hx'
          simp only [Bool.and_eq_true, Bool.or_eq_true, Bool.and_eq_false_iff, Bool.or_eq_false_iff, bne_iff_ne, ne_eq, bne_eq_false_iff_eq, decide_eq_true_eq, decide_eq_false_iff_not] at hxP
          clear hx hts
          go_wp2_with fail
          all_goals first
          | (go_roundg (s.size - (k + 1)); (case measure => omega); (case rel => exact ⟨k + 1, rfl, rfl, by omega, hq2, rfl⟩))
          | (exfalso; clear hbb hcell ck hq hq2 hx'; (try simp only [bne_iff_ne, ne_eq, bne_eq_false_iff_eq] at *); omega)
      · have i2 : ¬ (k : Int) < (s.size : Int) := by omega
        have hall : Aside0 ((nmAll s.data.toList) = true) := ⟨by
          have := hq.out
          rw [List.take_of_length_le (by rw [sz_toList]; omega)] at this
          exact this⟩
        go_wp2_with fail
        go_ret
        rw [hall.out]
        exact ⟨rfl, hbb⟩

set_option maxHeartbeats 2000000 in
set_option maxRecDepth 100000 in
theorem name_empty (s : ByteArray) (w : World) (h0 : s.size = 0) :
    Calls Tryd.prog 29 #[.string s] w fun e w' => e = .returned (.bool false) ∧ Below w.heap.size w w' := by
  have hne : s.toList = [] := by
    rw [Lib.toList_data]
    exact List.eq_nil_of_length_eq_zero (by rw [sz_toList]; exact h0)
  have hq2 : s.toList.isEmpty = true := by rw [hne]; rfl
  have hqe : (s.toList == []) = true := by rw [hne]; rfl
  go_enter Tryd.func29, Tryd.ntmps29
  go_wp2_with fail
  go_ret
  exact ⟨rfl, Below.refl _ _⟩
set_option maxHeartbeats 2000000 in
set_option maxRecDepth 100000 in
theorem name_long (s : ByteArray) (w : World) (h0 : 20 < s.size) :
    Calls Tryd.prog 29 #[.string s] w fun e w' => e = .returned (.bool false) ∧ Below w.heap.size w w' := by
  have hne : s.toList ≠ [] := by
    rw [Lib.toList_data]
    intro e
    have := congrArg List.length e
    rw [sz_toList] at this
    have h2 : ([] : List UInt8).length = 0 := rfl
    omega
  have hq2 : s.toList.isEmpty = false := by rw [Bool.eq_false_iff]; intro hh; exact hne (List.isEmpty_iff.1 hh)
  have b20 : decide ((20 : Int) < (s.size : Int)) = true := decide_eq_true (by omega)
  have hqe : (s.toList == []) = false := by rw [beq_eq_false_iff_ne]; exact hne
  go_enter Tryd.func29, Tryd.ntmps29
  go_wp2_with fail
  go_ret
  exact ⟨rfl, Below.refl _ _⟩
set_option maxHeartbeats 2000000 in
set_option maxRecDepth 100000 in
theorem name_digit (s : ByteArray) (w : World) (h0 : 0 < s.size) (h20 : s.size ≤ 20) (e1 : decide ((48 : Int) ≤ (s[0].toNat : Int)) = true) (e2 : decide ((s[0].toNat : Int) ≤ 57) = true) :
    Calls Tryd.prog 29 #[.string s] w fun e w' => e = .returned (.bool false) ∧ Below w.heap.size w w' := by
  have hne : s.toList ≠ [] := by
    rw [Lib.toList_data]
    intro e
    have := congrArg List.length e
    rw [sz_toList] at this
    have h2 : ([] : List UInt8).length = 0 := rfl
    omega
  have hq2 : s.toList.isEmpty = false := by rw [Bool.eq_false_iff]; intro hh; exact hne (List.isEmpty_iff.1 hh)
  have b20 : decide ((20 : Int) < (s.size : Int)) = false := decide_eq_false (by omega)
  have i1 : (0 : Int) < (s.size : Int) := by omega
  have hqe : (s.toList == []) = false := by rw [beq_eq_false_iff_ne]; exact hne
  go_enter Tryd.func29, Tryd.ntmps29
  go_wp2_with fail
  go_ret
  exact ⟨rfl, Below.refl _ _⟩
theorem name_any (s : ByteArray) (w : World) :
    Calls Tryd.prog 29 #[.string s] w fun e w' => e = .returned (.bool (nameOk s.data.toList)) ∧ Below w.heap.size w w' := by
  by_cases h0 : s.size = 0
  · have e : nameOk s.data.toList = false := by
      rw [List.eq_nil_of_length_eq_zero (l := s.data.toList) (by rw [sz_toList]; exact h0)]; rfl
    rw [e]
    exact name_empty s w h0
  · have hd : s.data.toList = s[0] :: s.data.toList.drop 1 := by
      have := List.drop_eq_getElem_cons (l := s.data.toList) (i := 0) (by rw [sz_toList]; omega)
      exact this
    have e : nameOk s.data.toList = (decide (s.data.toList.length ≤ 20) && !digI (s[0].toNat : Int) && nmAll s.data.toList) := by
      conv => lhs; rw [hd]
      show (decide ((s[0] :: s.data.toList.drop 1).length ≤ 20) && !digI (s[0].toNat : Int) && nmAll (s[0] :: s.data.toList.drop 1)) = _
      rw [← hd]
    rw [e, sz_toList]
    by_cases h20 : s.size ≤ 20
    · rw [decide_eq_true h20, Bool.true_and]
      unfold digI
      cases e1 : decide ((48 : Int) ≤ (s[0].toNat : Int)) with
      | true =>
        cases e2 : decide ((s[0].toNat : Int) ≤ 57) with
        | true => exact name_digit s w (by omega) h20 e1 e2
        | false => exact name_loop s w (by omega) h20 true false e1 e2 rfl
      | false =>
        cases e2 : decide ((s[0].toNat : Int) ≤ 57) with
        | true => exact name_loop s w (by omega) h20 false true e1 e2 rfl
        | false => exact name_loop s w (by omega) h20 false false e1 e2 rfl
    · rw [decide_eq_false h20]
      exact name_long s w (by omega)
end Go.Proofs.YtfefbnfmngdicaaDoor.PX
