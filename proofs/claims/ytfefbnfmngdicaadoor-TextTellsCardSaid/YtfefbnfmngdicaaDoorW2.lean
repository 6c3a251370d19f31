/- Walks: Unlines. -/
import Derived.Test.YtfefbnfmngdicaaDoorE1
import Derived.Test.YtfefbnfmngdicaaDoorGate
namespace Go.Proofs.YtfefbnfmngdicaaDoor.PX
set_option linter.unusedVariables false
set_option linter.unusedSimpArgs false
open Go.RowKit Go.Proofs.YtfefbnfmngdicaaDoorW.PrintWords Go.Proofs.YtfefbnfmngdicaaDoorW.PrintLast

def unl (l : List ByteArray) : List UInt8 := l.flatMap fun s => s.data.toList ++ [10]
theorem unl_snoc (l : List ByteArray) (s : ByteArray) : unl (l ++ [s]) = unl l ++ (s.data.toList ++ [10]) := by simp [unl]
theorem unl_take (l : List ByteArray) (k : Nat) (h : k < l.length) : unl (l.take (k + 1)) = unl (l.take k) ++ (l[k].data.toList ++ [10]) := by
  rw [List.take_succ_eq_append_getElem h, unl_snoc]
theorem unl_le (l : List ByteArray) (k : Nat) : (unl (l.take k)).length ≤ (unl l).length := by
  have : unl l = unl (l.take k) ++ unl (l.drop k) := by simp only [unl, ← List.flatMap_append, List.take_append_drop]
  rw [this, List.length_append]
  omega

set_option maxHeartbeats 1000000 in
set_option maxRecDepth 100000 in
theorem unlines_any (A0 : Option Addr) (c0 : Nat) (l : List ByteArray) (w : World) (hr : Kd.C Kd.string w A0 l.length l) (hl : (unl l).length ≤ 1000000) (hn : l.length ≤ 1000000) :
    Calls Tryd.prog 16 #[.slice A0 l.length c0] w fun e w' => e = .returned (.string ⟨(unl l).toArray⟩) ∧ Below w.heap.size w w' := by
  have HR := Aside0.mk hr
  clear hr
  go_enter Tryd.func16, Tryd.ntmps16
  go_wp2
  go_loopw [8] (fun i wr => ∃ k : Nat, k ≤ l.length ∧ i = .int .i64 k ∧ Lib.IsBuilder 54 5 w.heap.size w.heap.size (Lib.byteCells (unl (l.take k))) wr ∧ Below w.heap.size w wr) (fun i _ => l.length - (intOf i).toNat)
  case atStart => exact ⟨0, Nat.zero_le _, rfl, Lib.fresh_isBuilder 54 5 w, (Below.refl _ w).alloc (Nat.le_refl _) _⟩
  case round =>
    obtain ⟨k, hk, rfl, hI, hB⟩ := hrel
    have hu := unl_le l k
    by_cases hlt : k < l.length
    · have hts := Lib.hid (unl_take l k hlt)
      have hu1 : (unl (l.take k) ++ (l[k].data.toList ++ [10])).length ≤ (unl l).length := by rw [← unl_take l k hlt]; exact unl_le l (k + 1)
      simp only [List.length_append, List.length_singleton] at hu1
      have hz1 : l[k].size ≤ l[k].data.toList.length := Nat.le_of_eq (sz_toList _).symm
      obtain ⟨ad, e1, hx⟩ := Kd.at_string HR.out k (by omega) (by omega)
      have hx' := pw_cell_below hB hx
      cases e1
      clear hx
      have hrd : rdOf ByteArray.empty l (k : Int) = l[k] := by simp [rdOf, List.getD_eq_getElem?_getD, hlt]
      rw [hrd] at hx'
      simp only [Int.toNat_natCast] at hx'
      clear hrd
      go_wp2_with fail
      refine (writeString_any _ _ _ _ _ hI (by rw [Lib.byteCells_length]; omega) hB.size).mono ?_
      rintro e w1 ⟨rfl, h1, b1⟩
      have hB1 := hB.trans b1
      go_wp2_with fail
      refine (writeByte_any _ _ _ 10 _ h1 (by rw [List.length_append, Lib.byteCells_length, Lib.strCells_length]; omega) hB1.size).mono ?_
      rintro e w2 ⟨rfl, h2, b2⟩
      have hB2 := hB1.trans b2
      go_wp2
      go_roundw
      case rel =>
        refine ⟨k + 1, by omega, by go_num, ?_, hB2⟩
        rw [hts.out, Lib.byteCells_append, Lib.byteCells_append]
        have := h2
        simp only [List.append_assoc] at this
        exact this
      case measure => simp [intOf]; omega
    · go_wp2_with fail
      refine (Tryd.Builder_String_any _ _ (unl l) _ (by rw [List.take_of_length_le (by omega)] at hI; exact hI) hB.size).mono ?_
      rintro e w1 ⟨rfl, b1⟩
      go_wp2
      go_ret
      exact ⟨rfl, hB.trans b1⟩
end Go.Proofs.YtfefbnfmngdicaaDoor.PX
