import Derived.Test.YtfefbnfmngdicaaDoorShelf
import Derived.Test.YtfefbnfmngdicaaDoorBld
import Derived.Test.YtfefbnfmngdicaaDoorPlain
import Derived.Test.YtfefbnfmngdicaaDoorGate
import Derived.WalkKit
import Derived.BigCall
import Derived.Outline
namespace Go.Proofs.YtfefbnfmngdicaaDoor.PX
set_option linter.unusedVariables false
set_option linter.unusedSimpArgs false
open Go.RowKit

theorem idxc_any (l : List UInt8) (c : UInt8) (w : World) :
    Calls Tryd.prog 52 #[.string ⟨l.toArray⟩, .int .u8 c.toNat] w fun e w' => e = .returned (.int .i64 (Lib.indexByte l c)) ∧ w = w' :=
  (Tryd.strings_IndexByte ⟨l.toArray⟩ c.toNat w).mono fun e w' ⟨he, hw⟩ => ⟨by rw [he]; simp, hw.symm⟩

set_option maxHeartbeats 1000000 in
set_option maxRecDepth 100000 in
theorem escape_any (s : ByteArray) (w : World) (hs : s.size ≤ 1000000) :
    Calls Tryd.prog 19 #[.string s] w fun e w' => e = .returned (.string ⟨(esc s.data.toList).toArray⟩) ∧ Below w.heap.size w w' := by
  go_enter Tryd.func19, Tryd.ntmps19
  go_wp2
  go_loopw [7] (fun i wr => ∃ k : Nat, k ≤ s.size ∧ i = .int .i64 k ∧ Lib.IsBuilder 54 5 w.heap.size w.heap.size (Lib.byteCells (esc (s.data.toList.take k))) wr ∧ Below w.heap.size w wr) (fun i _ => s.size - (intOf i).toNat)
  case atStart =>
    exact ⟨0, Nat.zero_le _, rfl, Lib.fresh_isBuilder 54 5 w, (Below.refl _ w).alloc (Nat.le_refl _) _⟩
  case round =>
    obtain ⟨k, hk, rfl, hI, hB⟩ := hrel
    have hl := esc_len (s.data.toList.take k)
    have hl2 : (s.data.toList.take k).length ≤ k := List.length_take_le _ _
    by_cases hlt : k < s.size
    · have hts := Lib.hid (take_snoc s k hlt)
      by_cases hc : s[k] = 42 ∨ s[k] = 63 ∨ s[k] = 91 ∨ s[k] = 92
      · have h0 : 0 ≤ Lib.indexByte [42, 63, 91, 92] s[k] := (idx_esc _).2 hc
        have hE := Lib.hid (show escB s[k] = [92, s[k]] from if_pos hc)
        clear hc
        go_wp2_with (go_at_call 52; refine (idxc_any [42, 63, 91, 92] _ _).mono ?_; rintro e w' ⟨rfl, rfl⟩)
        refine (writeByte_any _ _ _ 92 _ hI (by rw [Lib.byteCells_length]; omega) hB.size).mono ?_
        rintro e w1 ⟨rfl, h1, b1⟩
        have hB1 := hB.trans b1
        go_wp2_with fail
        refine (writeByte_any _ _ _ _ _ h1 (by rw [List.length_append, Lib.byteCells_length]; simp; omega) hB1.size).mono ?_
        rintro e w2 ⟨rfl, h2, b2⟩
        have hB2 := hB1.trans b2
        go_wp2
        go_roundw
        case rel =>
          refine ⟨k + 1, by omega, by go_num, ?_, hB2⟩
          rw [hts.out, esc_snoc, hE.out, Lib.byteCells_append]
          have := h2
          try simp only [List.append_assoc] at this
          exact this
        case measure => simp [intOf]; omega
      · have h0 : ¬ 0 ≤ Lib.indexByte [42, 63, 91, 92] s[k] := fun h => hc ((idx_esc _).1 h)
        have hE := Lib.hid (show escB s[k] = [s[k]] from if_neg hc)
        clear hc
        go_wp2_with (go_at_call 52; refine (idxc_any [42, 63, 91, 92] _ _).mono ?_; rintro e w' ⟨rfl, rfl⟩)
        refine (writeByte_any _ _ _ _ _ hI (by rw [Lib.byteCells_length]; omega) hB.size).mono ?_
        rintro e w2 ⟨rfl, h2, b2⟩
        have hB2 := hB.trans b2
        go_wp2
        go_roundw
        case rel =>
          refine ⟨k + 1, by omega, by go_num, ?_, hB2⟩
          rw [hts.out, esc_snoc, hE.out, Lib.byteCells_append]
          exact h2
        case measure => simp [intOf]; omega
    · go_wp2_with fail
      refine (Tryd.Builder_String_any _ _ _ _ hI hB.size).mono ?_
      rintro e w1 ⟨rfl, b1⟩
      go_wp2
      go_ret
      rw [take_all s k (by omega)]
      exact ⟨rfl, hB.trans b1⟩

set_option maxHeartbeats 1000000 in
set_option maxRecDepth 100000 in
theorem quote_any (s : ByteArray) (w : World) (hs : s.size ≤ 1000000) :
    Calls Tryd.prog 23 #[.string s] w fun e w' => e = .returned (.string ⟨(quo s.data.toList).toArray⟩) ∧ Below w.heap.size w w' := by
  go_enter Tryd.func23, Tryd.ntmps23
  go_wp2_with fail
  refine (writeByte_any w.heap.size w.heap.size [] 34 _ (Lib.fresh_isBuilder 54 5 w) (by simp) (by simp)).mono ?_
  rintro e w0 ⟨rfl, h0, b0⟩
  have hB0 := ((Below.refl _ w).alloc (Nat.le_refl _) (.cells #[.pointer none, .slice none 0 0] 54)).trans b0
  go_wp2
  go_loopw [9] (fun i wr => ∃ k : Nat, k ≤ s.size ∧ i = .int .i64 k ∧ Lib.IsBuilder 54 5 w.heap.size w.heap.size (Lib.byteCells (34 :: (s.data.toList.take k).flatMap quoB)) wr ∧ Below w.heap.size w wr) (fun i _ => s.size - (intOf i).toNat)
  case atStart =>
    exact ⟨0, Nat.zero_le _, rfl, h0, hB0⟩
  case round =>
    obtain ⟨k, hk, rfl, hI, hB⟩ := hrel
    have hl := quoF_len (s.data.toList.take k)
    have hl2 : (s.data.toList.take k).length ≤ k := List.length_take_le _ _
    by_cases hlt : k < s.size
    · have hts := Lib.hid (take_snoc s k hlt)
      by_cases hc : s[k].toNat = 34
      · have hE := Lib.hid (show quoB s[k] = [92, s[k]] from if_pos (by omega))
        have e34 : ((s[k].toNat : Int) == 34) = true := by simp; omega
        clear hc
        go_wp2_with fail
        refine (writeByte_any _ _ _ 92 _ hI (by rw [Lib.byteCells_length, List.length_cons]; omega) hB.size).mono ?_
        rintro e w1 ⟨rfl, h1, b1⟩
        have hB1 := hB.trans b1
        go_wp2_with fail
        refine (writeByte_any _ _ _ (s[k].toNat) _ h1 (by rw [List.length_append, Lib.byteCells_length, List.length_cons, List.length_singleton]; omega) hB1.size).mono ?_
        rintro e w2 ⟨rfl, h2, b2⟩
        have hB2 := hB1.trans b2
        go_wp2
        go_roundw
        case rel =>
          refine ⟨k + 1, by omega, by go_num, ?_, hB2⟩
          rw [hts.out, flat_snoc, hE.out, ← List.cons_append, Lib.byteCells_append]
          have := h2
          try simp only [List.append_assoc] at this
          exact this
        case measure => simp [intOf]; omega
      by_cases hc2 : s[k].toNat = 92
      · have hE := Lib.hid (show quoB s[k] = [92, s[k]] from if_pos (by omega))
        have e34 : ((s[k].toNat : Int) == 34) = false := by simp; omega
        have e92 : ((s[k].toNat : Int) == 92) = true := by simp; omega
        clear hc hc2
        go_wp2_with fail
        refine (writeByte_any _ _ _ 92 _ hI (by rw [Lib.byteCells_length, List.length_cons]; omega) hB.size).mono ?_
        rintro e w1 ⟨rfl, h1, b1⟩
        have hB1 := hB.trans b1
        go_wp2_with fail
        refine (writeByte_any _ _ _ (s[k].toNat) _ h1 (by rw [List.length_append, Lib.byteCells_length, List.length_cons, List.length_singleton]; omega) hB1.size).mono ?_
        rintro e w2 ⟨rfl, h2, b2⟩
        have hB2 := hB1.trans b2
        go_wp2
        go_roundw
        case rel =>
          refine ⟨k + 1, by omega, by go_num, ?_, hB2⟩
          rw [hts.out, flat_snoc, hE.out, ← List.cons_append, Lib.byteCells_append]
          have := h2
          try simp only [List.append_assoc] at this
          exact this
        case measure => simp [intOf]; omega
      by_cases hc3 : s[k].toNat = 10
      · have hE := Lib.hid (show quoB s[k] = [92, 110] from by unfold quoB; rw [if_neg (by omega), if_pos hc3])
        have e34 : ((s[k].toNat : Int) == 34) = false := by simp; omega
        have e92 : ((s[k].toNat : Int) == 92) = false := by simp; omega
        have e10 : ((s[k].toNat : Int) == 10) = true := by simp; omega
        clear hc hc2 hc3
        go_wp2_with fail
        refine (writeString_any _ _ _ ⟨#[92, 110]⟩ _ hI (by rw [Lib.byteCells_length, List.length_cons, ByteArray.size, List.size_toArray]; simp only [List.length_cons, List.length_nil]; omega) hB.size).mono ?_
        rintro e w2 ⟨rfl, h2, b2⟩
        have hB2 := hB.trans b2
        go_wp2
        go_roundw
        case rel =>
          refine ⟨k + 1, by omega, by go_num, ?_, hB2⟩
          rw [hts.out, flat_snoc, hE.out, ← List.cons_append, Lib.byteCells_append]
          have := h2
          try simp only [List.append_assoc] at this
          exact this
        case measure => simp [intOf]; omega
      by_cases hc4 : 32 ≤ s[k].toNat ∧ s[k].toNat ≤ 126
      · have hE := Lib.hid (show quoB s[k] = [s[k]] from by unfold quoB; rw [if_neg (by omega), if_neg hc3, if_pos hc4])
        have e34 : ((s[k].toNat : Int) == 34) = false := by simp; omega
        have e92 : ((s[k].toNat : Int) == 92) = false := by simp; omega
        have e10 : ((s[k].toNat : Int) == 10) = false := by simp; omega
        have elo : decide (32 ≤ (s[k].toNat : Int)) = true := by simp; omega
        have ehi : decide ((s[k].toNat : Int) ≤ 126) = true := by simp; omega
        clear hc hc2 hc3 hc4
        go_wp2_with fail
        refine (writeByte_any _ _ _ _ _ hI (by rw [Lib.byteCells_length, List.length_cons]; omega) hB.size).mono ?_
        rintro e w2 ⟨rfl, h2, b2⟩
        have hB2 := hB.trans b2
        go_wp2
        go_roundw
        case rel =>
          refine ⟨k + 1, by omega, by go_num, ?_, hB2⟩
          rw [hts.out, flat_snoc, hE.out, ← List.cons_append, Lib.byteCells_append]
          have := h2
          try simp only [List.append_assoc] at this
          exact this
        case measure => simp [intOf]; omega
      · by_cases hc5 : 32 ≤ s[k].toNat
        · have hE := Lib.hid (show quoB s[k] = [92, 120, hexD (s[k].toNat / 16), hexD (s[k].toNat % 16)] from by unfold quoB; rw [if_neg (by omega), if_neg hc3, if_neg hc4])
          have e34 : ((s[k].toNat : Int) == 34) = false := by simp; omega
          have e92 : ((s[k].toNat : Int) == 92) = false := by simp; omega
          have e10 : ((s[k].toNat : Int) == 10) = false := by simp; omega
          have elo : decide (32 ≤ (s[k].toNat : Int)) = true := by simp; omega
          have ehi : decide ((s[k].toNat : Int) ≤ 126) = false := by simp; omega
          clear hc hc2 hc3 hc4
          have hby := s[k].toNat_lt
          go_wp2_with fail
          refine (writeString_any _ _ _ ⟨#[92, 120]⟩ _ hI (by rw [Lib.byteCells_length, List.length_cons, ByteArray.size, List.size_toArray]; simp only [List.length_cons, List.length_nil]; omega) hB.size).mono ?_
          rintro e w1 ⟨rfl, h1, b1⟩
          have hB1 := hB.trans b1
          go_wp2_with fail
          refine (writeByte_any _ _ _ _ _ h1 (by rw [List.length_append, Lib.byteCells_length, List.length_cons]; simp only [Lib.strCells, List.length_map, List.length_cons, List.length_nil]; omega) hB1.size).mono ?_
          rintro e w2 ⟨rfl, h2, b2⟩
          have hB2 := hB1.trans b2
          go_wp2_with fail
          refine (writeByte_any _ _ _ _ _ h2 (by rw [List.length_append, List.length_append, Lib.byteCells_length, List.length_cons]; simp only [Lib.strCells, List.length_map, List.length_cons, List.length_nil]; omega) hB2.size).mono ?_
          rintro e w3 ⟨rfl, h3, b3⟩
          have hB3 := hB2.trans b3
          go_wp2
          go_roundw
          case rel =>
            refine ⟨k + 1, by omega, by go_num, ?_, hB3⟩
            rw [hts.out, flat_snoc, hE.out, ← List.cons_append, Lib.byteCells_append]
            have := h3
            simp only [List.append_assoc, hexAt] at this
            exact this
          case measure => simp [intOf]; omega
        · have hE := Lib.hid (show quoB s[k] = [92, 120, hexD (s[k].toNat / 16), hexD (s[k].toNat % 16)] from by unfold quoB; rw [if_neg (by omega), if_neg hc3, if_neg hc4])
          have e34 : ((s[k].toNat : Int) == 34) = false := by simp; omega
          have e92 : ((s[k].toNat : Int) == 92) = false := by simp; omega
          have e10 : ((s[k].toNat : Int) == 10) = false := by simp; omega
          have elo : decide (32 ≤ (s[k].toNat : Int)) = false := by simp; omega
          clear hc hc2 hc3 hc4
          have hby := s[k].toNat_lt
          go_wp2_with fail
          refine (writeString_any _ _ _ ⟨#[92, 120]⟩ _ hI (by rw [Lib.byteCells_length, List.length_cons, ByteArray.size, List.size_toArray]; simp only [List.length_cons, List.length_nil]; omega) hB.size).mono ?_
          rintro e w1 ⟨rfl, h1, b1⟩
          have hB1 := hB.trans b1
          go_wp2_with fail
          refine (writeByte_any _ _ _ _ _ h1 (by rw [List.length_append, Lib.byteCells_length, List.length_cons]; simp only [Lib.strCells, List.length_map, List.length_cons, List.length_nil]; omega) hB1.size).mono ?_
          rintro e w2 ⟨rfl, h2, b2⟩
          have hB2 := hB1.trans b2
          go_wp2_with fail
          refine (writeByte_any _ _ _ _ _ h2 (by rw [List.length_append, List.length_append, Lib.byteCells_length, List.length_cons]; simp only [Lib.strCells, List.length_map, List.length_cons, List.length_nil]; omega) hB2.size).mono ?_
          rintro e w3 ⟨rfl, h3, b3⟩
          have hB3 := hB2.trans b3
          go_wp2
          go_roundw
          case rel =>
            refine ⟨k + 1, by omega, by go_num, ?_, hB3⟩
            rw [hts.out, flat_snoc, hE.out, ← List.cons_append, Lib.byteCells_append]
            have := h3
            simp only [List.append_assoc, hexAt] at this
            exact this
          case measure => simp [intOf]; omega
    · go_wp2_with fail
      refine (writeByte_any _ _ _ 34 _ hI (by rw [Lib.byteCells_length, List.length_cons]; omega) hB.size).mono ?_
      rintro e w1 ⟨rfl, h1, b1⟩
      have hB1 := hB.trans b1
      go_wp2_with fail
      refine (Tryd.Builder_String_any _ _ (quo s.data.toList) _ (by rw [take_all s k (by omega)] at h1; have := h1; unfold quo; rw [Lib.byteCells_append]; exact this) hB1.size).mono ?_
      rintro e w2 ⟨rfl, b2⟩
      go_wp2
      go_ret
      exact ⟨rfl, hB1.trans b2⟩
end Go.Proofs.YtfefbnfmngdicaaDoor.PX
