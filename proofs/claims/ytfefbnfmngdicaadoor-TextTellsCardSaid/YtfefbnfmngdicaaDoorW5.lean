/- The walk of Plain. -/
import Derived.Test.YtfefbnfmngdicaaDoorW4
import Derived.Test.YtfefbnfmngdicaaDoorBld
import Derived.Test.YtfefbnfmngdicaaDoorShelf
namespace Go.Proofs.YtfefbnfmngdicaaDoor.PX
set_option linter.unusedVariables false
set_option linter.unusedSimpArgs false
open Go.RowKit Go.Proofs.YtfefbnfmngdicaaDoorW.PrintWords Go.Proofs.YtfefbnfmngdicaaDoorW.PrintLast

theorem drop_at (p : ByteArray) (i : Nat) (h : i < p.size) : p.data.toList.drop i = p[i] :: p.data.toList.drop (i + 1) := by
  rw [List.drop_eq_getElem_cons (by rw [sz_toList]; exact h), get_list p i h]

/-- The relation at the head of Plain's loop. -/
structure PlRel (p : ByteArray) (w : World) (i : Nat) (acc : List UInt8) (wr : World) : Prop where
  eq : acc ++ pln (p.data.toList.drop i) = pln p.data.toList
  len : acc.length ≤ i
  hi : i ≤ p.size
  bld : Lib.IsBuilder 54 5 w.heap.size w.heap.size (Lib.byteCells acc) wr
  bel : Below w.heap.size w wr

set_option maxHeartbeats 4000000 in
set_option maxRecDepth 100000 in
theorem plain_any (p : ByteArray) (w : World) (hp : p.size ≤ 1000000) :
    Calls Tryd.prog 25 #[.string p] w fun e w' => e = .returned (.string ⟨(pln p.data.toList).toArray⟩) ∧ Below w.heap.size w w' := by
  go_enter Tryd.func25, Tryd.ntmps25
  go_wp2
  go_loopw [4] (fun v4 wr => ∃ (i : Nat) (acc : List UInt8), v4 = .int .i64 i ∧ PlRel p w i acc wr) (fun v4 _ => p.size - (intOf v4).toNat)
  case atStart => exact ⟨0, [], rfl, rfl, Nat.le_refl _, Nat.zero_le _, Lib.fresh_isBuilder 54 5 w, (Below.refl _ w).alloc (Nat.le_refl _) _⟩
  case round =>
    obtain ⟨i, acc, rfl, hR⟩ := hrel
    have hi := hR.hi
    have hal := hR.len
    have hI := hR.bld
    have hB := hR.bel
    by_cases hip : i < p.size
    · have hd := drop_at p i hip
      by_cases h92 : p[i] = 92
      · have g1 : 92 ≤ p[i].toNat := by rw [h92]; decide
        have g2 : p[i].toNat ≤ 92 := by rw [h92]; decide
        by_cases h1 : i + 1 < p.size
        · have hd1 := drop_at p (i + 1) h1
          have heq := Lib.hid (show (acc ++ [p[i + 1]]) ++ pln (p.data.toList.drop (i + 2)) = pln p.data.toList from by
            rw [← hR.eq, hd, hd1, h92, pln_esc]; simp)
          have q1 : (i : Int) + 1 < (p.size : Int) := by omega
          have q2 : (0 : Int) ≤ (i : Int) + 1 := by omega
          clear hR hd hd1 h92
          go_wp2_with fail
          refine (writeByte_any _ _ _ _ _ hI (by rw [Lib.byteCells_length]; omega) hB.size).mono ?_
          rintro e w2 ⟨rfl, h2, b2⟩
          have hB2 := hB.trans b2
          go_wp2
          go_roundw
          case rel => exact ⟨i + 2, acc ++ [p[i + 1]], by go_num, heq.out, by simp; omega, by omega, by rw [Lib.byteCells_append]; exact h2, hB2⟩
          case measure => simp [intOf]; omega
        · have hn : p.data.toList.drop (i + 1) = [] := List.drop_of_length_le (by rw [sz_toList]; omega)
          have heq := Lib.hid (show (acc ++ [92]) ++ pln (p.data.toList.drop (i + 1)) = pln p.data.toList from by
            rw [← hR.eq, hd, hn, h92, pln_one 92 [] rfl (.inr rfl)]; simp)
          have q1 : ¬ (i : Int) + 1 < (p.size : Int) := by omega
          clear hR hd hn h92
          go_wp2_with fail
          refine (writeByte_any _ _ _ _ _ hI (by rw [Lib.byteCells_length]; omega) hB.size).mono ?_
          rintro e w2 ⟨rfl, h2, b2⟩
          have hB2 := hB.trans b2
          go_wp2
          go_roundw
          case rel => exact ⟨i + 1, acc ++ [92], by go_num, heq.out, by simp; omega, by omega, by rw [Lib.byteCells_append]; first | exact h2 | (rw [show (p[i].toNat : Int) = 92 from by omega] at h2; exact h2), hB2⟩
          case measure => simp [intOf]; omega
      · have n92 : p[i].toNat ≠ 92 := fun h => h92 (u8_eq h (by decide))
        have e92 : ((p[i].toNat : Int) == 92) = false := by rw [beq_eq_false_iff_ne]; omega
        by_cases h91 : p[i] = 91
        · have g1 : 91 ≤ p[i].toNat := by rw [h91]; decide
          have g2 : p[i].toNat ≤ 91 := by rw [h91]; decide
          have hcl := class_eq 1 p i hp hip (Nat.le_refl _)
          unfold clsR at hcl
          cases hc : cls (p.data.toList.drop (i + 1)) with
          | none =>
            rw [hc] at hcl
            have hcl := Lib.hid hcl
            have heq := Lib.hid (show (acc ++ [91]) ++ pln (p.data.toList.drop (i + 1)) = pln p.data.toList from by
              rw [← hR.eq, hd, h91, pln_one 91 _ (part1_none _ hc) (.inl (by decide))]; simp)
            clear hR hd h91 hc h92
            go_wp2_with fail
            refine (text_class.calls 1 p i 0 false ⟨#[]⟩ false _ hcl.out).mono ?_
            rintro e w1 ⟨rfl, b1⟩
            have hB1 := below_then hB hB.size b1
            have hI1 := isBuilder_below hI b1
            go_wp2_with fail
            refine (writeByte_any _ _ _ _ _ hI1 (by rw [Lib.byteCells_length]; omega) hB1.size).mono ?_
            rintro e w2 ⟨rfl, h2, b2⟩
            have hB2 := hB1.trans b2
            go_wp2
            go_roundw
            case rel => exact ⟨i + 1, acc ++ [91], by go_num, heq.out, by simp; omega, by omega, by rw [Lib.byteCells_append]; first | exact h2 | (rw [show (p[i].toNat : Int) = 91 from by omega] at h2; exact h2), hB2⟩
            case measure => simp [intOf]; omega
          | some x =>
            obtain ⟨n, neg, set⟩ := x
            rw [hc] at hcl
            have hl := cls_lt _ _ _ _ hc
            rw [List.length_drop, sz_toList] at hl
            have hcl := Lib.hid hcl
            have hx : i + 1 + n < p.size := by omega
            have e3 : (p.data.toList.drop i).take (n + 2) = (p.data.toList.drop i).take (n + 1) ++ [p[i + 1 + n]] := by
              rw [List.take_succ_eq_append_getElem (by rw [List.length_drop, sz_toList]; omega)]
              congr 2
              rw [List.getElem_drop, get_list p (i + 1 + n) hx]
              congr 1
              omega
            have heq := Lib.hid (show (acc ++ (p.data.toList.drop i).take (n + 1) ++ [p[i + 1 + n]]) ++ pln (p.data.toList.drop (i + 1 + n + 1)) = pln p.data.toList from by
              rw [← hR.eq]
              conv => rhs; rw [hd, h91, pln_cls _ n neg set hc, ← h91, ← hd]
              rw [e3, List.drop_drop, show i + (n + 2) = i + 1 + n + 1 by omega]
              simp)
            have hex := Lib.hid (show Lib.strCells (p.extract i (i + 1 + n)) = Lib.byteCells ((p.data.toList.drop i).take (n + 1)) from by
              unfold Lib.strCells Lib.byteCells
              rw [ext_list, show i + 1 + n - i = n + 1 by omega])
            have hexs : (p.extract i (i + 1 + n)).size ≤ 1000000 := by rw [ByteArray.size_extract]; omega
            have q1 : (0 : Int) ≤ (i : Int) + 1 + (n : Int) := by omega
            have q2 : (i : Int) + 1 + (n : Int) < (p.size : Int) := by omega
            have q3 : (i : Int) + 1 + (n : Int) ≤ (p.size : Int) := by omega
            have q4 : (i : Int) ≤ (i : Int) + 1 + (n : Int) := by omega
            have t1 : ((i : Int) + 1 + (n : Int)).toNat = i + 1 + n := by omega
            clear hR hd h91 hc h92 e3
            go_wp2_with fail
            refine (text_class.calls 1 p i ((i : Int) + 1 + n) neg ⟨set.toArray⟩ true _ hcl.out).mono ?_
            rintro e w1 ⟨rfl, b1⟩
            have hB1 := below_then hB hB.size b1
            have hI1 := isBuilder_below hI b1
            go_wp2_with fail
            refine (writeString_any _ _ _ _ _ hI1 (by rw [Lib.byteCells_length]; omega) hB1.size).mono ?_
            rintro e w2 ⟨rfl, h2, b2⟩
            have hB2 := hB1.trans b2
            rw [hex.out, ← Lib.byteCells_append] at h2
            go_wp2_with fail
            refine (writeByte_any _ _ _ _ _ h2 (by rw [Lib.byteCells_length, List.length_append, List.length_take]; omega) hB2.size).mono ?_
            rintro e w3 ⟨rfl, h3, b3⟩
            have hB3 := hB2.trans b3
            go_wp2
            go_roundw
            case rel => exact ⟨i + 1 + n + 1, acc ++ (p.data.toList.drop i).take (n + 1) ++ [p[i + 1 + n]], by go_num, heq.out, by simp; omega, by omega, by rw [Lib.byteCells_append]; exact h3, hB3⟩
            case measure => simp [intOf]; omega
        · have n91 : p[i].toNat ≠ 91 := fun h => h91 (u8_eq h (by decide))
          have e91 : ((p[i].toNat : Int) == 91) = false := by rw [beq_eq_false_iff_ne]; omega
          have heq := Lib.hid (show (acc ++ [p[i]]) ++ pln (p.data.toList.drop (i + 1)) = pln p.data.toList from by
            rw [← hR.eq, hd, pln_byte _ _ h92 h91]; simp)
          clear hR hd h92 h91
          go_wp2_with fail
          refine (writeByte_any _ _ _ _ _ hI (by rw [Lib.byteCells_length]; omega) hB.size).mono ?_
          rintro e w2 ⟨rfl, h2, b2⟩
          have hB2 := hB.trans b2
          go_wp2
          go_roundw
          case rel => exact ⟨i + 1, acc ++ [p[i]], by go_num, heq.out, by simp; omega, by omega, by rw [Lib.byteCells_append]; exact h2, hB2⟩
          case measure => simp [intOf]; omega
    · have hfin : acc = pln p.data.toList := by
        have := hR.eq
        rw [List.drop_of_length_le (by rw [sz_toList]; omega), pln_nil, List.append_nil] at this
        exact this
      rw [hfin] at hI
      clear hR hal hfin
      go_wp2_with fail
      refine (Tryd.Builder_String_any _ _ _ _ hI hB.size).mono ?_
      rintro e w1 ⟨rfl, b1⟩
      have hB1 := hB.trans b1
      go_wp2
      go_ret
      exact ⟨rfl, hB1⟩
end Go.Proofs.YtfefbnfmngdicaaDoor.PX
