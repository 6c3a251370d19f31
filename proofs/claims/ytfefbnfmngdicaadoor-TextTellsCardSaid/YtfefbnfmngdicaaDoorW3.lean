/- Walks: Unquote. -/
import Derived.Test.YtfefbnfmngdicaaDoorW2
import Derived.BigRegion
import Derived.Deep.DeepCutAuto
import Derived.Deep.CutBlock
import Derived.Deep.RegionWith
import Derived.Deep.QuietTactic
import Derived.BigQuiet
import Derived.StillTailTactics
namespace Go.Proofs.YtfefbnfmngdicaaDoor.PX
set_option linter.unusedVariables false
set_option linter.unusedSimpArgs false
open Go.RowKit Go.Proofs.YtfefbnfmngdicaaDoorW.PrintWords Go.Proofs.YtfefbnfmngdicaaDoorW.PrintLast

/-- What stands between the first and the last byte. -/
def mid (s : ByteArray) : List UInt8 := (s.data.toList.drop 1).take (s.size - 2)
theorem mid_len (s : ByteArray) : (mid s).length = s.size - 2 := by
  unfold mid
  rw [List.length_take, List.length_drop, sz_toList]
  omega
theorem mid_at (s : ByteArray) (j : Nat) (h : j < s.size - 2) : (mid s)[j]'(by rw [mid_len]; exact h) = s[j + 1]'(by omega) := by
  unfold mid
  rw [List.getElem_take, List.getElem_drop]
  show s.data.toList[1 + j]'_ = s.data[j + 1]'_
  simp only [Nat.add_comm 1 j, Array.getElem_toList]
theorem mid_drop (s : ByteArray) (j : Nat) (h : j < s.size - 2) : (mid s).drop j = s[j + 1]'(by omega) :: (mid s).drop (j + 1) := by
  rw [← mid_at s j h]
  exact List.drop_eq_getElem_cons _

theorem isBuilderF_below {T e : TypeId} {B b : Nat} {bs : List Value} {w w' : World} (h : Lib.IsBuilderF T e B b bs w) (hb : Below w.heap.size w w') : Lib.IsBuilderF T e B b bs w' := by
  have key : ∀ p, Lib.BuilderAtF T e B b p bs w → Lib.BuilderAtF T e B b p bs w' := by
    rintro p ⟨hB, v, hbk, ⟨hl, ho⟩, hne⟩
    have old : ∀ (i : Nat) (o : Obj), w.heap[i]? = some o → w'.heap[i]? = some o := fun i o hi => by
      rw [hb.block i (by rcases Nat.lt_or_ge i w.heap.size with h' | h'; exact h'; rw [Array.getElem?_eq_none h'] at hi; cases hi)]
      exact hi
    refine ⟨hB, v, old _ _ hbk, ⟨hl, ?_⟩, hne⟩
    rcases ho with ho | ⟨g, cap, cur, fz, hv, hg, hh, rest⟩
    · exact .inl ho
    · exact .inr ⟨g, cap, cur, fz, hv, hg, old _ _ hh, rest⟩
  exact h.imp (key _) (key _)

/-- What Unquote answers. -/
def unqV (s : ByteArray) : Value := if quo (unq (mid s)) = s.data.toList then .tuple #[.string ⟨(unq (mid s)).toArray⟩, .bool true] else .tuple #[.string ⟨#[]⟩, .bool false]

set_option maxHeartbeats 40000000 in
set_option maxRecDepth 100000 in
theorem unquote_any (s : ByteArray) (w : World) (hs : s.size ≤ 1000000) :
    Calls Tryd.prog 22 #[.string s] w fun e w' => e = .returned (unqV s) ∧ Below w.heap.size w w' := by
  go_enter Tryd.func22, Tryd.ntmps22
  go_wp2
  go_loopw [5] (fun i wr => ∃ (j : Nat) (acc : List UInt8), i = .int .i64 ((j : Int) + 1) ∧ Hid (acc ++ unq ((mid s).drop j) = unq (mid s)) ∧ acc.length ≤ j ∧ j ≤ s.size - 2 ∧ Lib.IsBuilder 54 5 w.heap.size w.heap.size (Lib.byteCells acc) wr ∧ Below w.heap.size w wr) (fun i _ => s.size + 1 - (intOf i).toNat)
  case atStart => exact ⟨0, [], rfl, Lib.hid rfl, Nat.le_refl _, Nat.zero_le _, Lib.fresh_isBuilder 54 5 w, (Below.refl _ w).alloc (Nat.le_refl _) _⟩
  case round =>
    obtain ⟨j, acc, rfl, hacc, hal, hj, hI, hB⟩ := hrel
    by_cases hlt : j < s.size - 2
    · have hd := Lib.hid (mid_drop s j hlt)
      have hsz : 2 ≤ s.size := by omega
      have q1 : (j : Int) + 1 < (s.size : Int) - 1 := by omega
      have q2 : (0 : Int) ≤ (j : Int) + 1 := by omega
      have q3 : (j : Int) + 1 < (s.size : Int) := by omega
      by_cases hc : s[j + 1].toNat = 92
      · by_cases h1 : j + 1 < s.size - 2
        · have q4 : (j : Int) + 1 + 1 < (s.size : Int) - 1 := by omega
          have q5 : (0 : Int) ≤ (j : Int) + 1 + 1 := by omega
          have q6 : (j : Int) + 1 + 1 < (s.size : Int) := by omega
          have hd2 := Lib.hid (mid_drop s (j + 1) h1)
          by_cases hn : s[j + 1 + 1].toNat = 110
          · have g1 : 92 ≤ s[j + 1].toNat := by omega
            have g2 : s[j + 1].toNat ≤ 92 := by omega
            have g3 : 110 ≤ s[j + 1 + 1].toNat := by omega
            have g4 : s[j + 1 + 1].toNat ≤ 110 := by omega
            clear hc hn
            go_wp2_with fail
            refine (writeByte_any _ _ _ 10 _ hI (by rw [Lib.byteCells_length]; omega) hB.size).mono ?_
            rintro e w2 ⟨rfl, h2, b2⟩
            have hB2 := hB.trans b2
            go_wp2
            go_roundw
            case rel =>
              refine ⟨j + 2, acc ++ [10], by go_num, ?_, by simp; omega, by omega, ?_, hB2⟩
              · refine Lib.hid ?_
                have := hacc.out
                rw [hd.out, hd2.out, show s[j + 1] = 92 from UInt8.toNat_inj.1 (by show _ = 92; omega), show s[j + 1 + 1] = 110 from UInt8.toNat_inj.1 (by show _ = 110; omega), unq_n] at this
                rw [List.append_assoc, ← this]
                rfl
              · rw [Lib.byteCells_append]
                exact h2
            case measure => simp [intOf]; omega
          · by_cases hx : s[j + 1 + 1].toNat = 120 ∧ j + 3 < s.size - 2
            · obtain ⟨hx1, h3⟩ := hx
              have hd3 := Lib.hid (mid_drop s (j + 1 + 1) (by omega))
              have hd4 := Lib.hid (mid_drop s (j + 1 + 1 + 1) (by omega))
              have f1 : 92 ≤ s[j + 1].toNat := by omega
              have f2 : s[j + 1].toNat ≤ 92 := by omega
              have f3 : 120 ≤ s[j + 1 + 1].toNat := by omega
              have f4 : s[j + 1 + 1].toNat ≤ 120 := by omega
              have f5 : ((s[j + 1 + 1].toNat : Int) == 110) = false := by simp; omega
              have f6 : ((s[j + 1 + 1].toNat : Int) == 120) = true := by simp; omega
              have q7 : (j : Int) + 1 + 1 + 2 < (s.size : Int) - 1 := by omega
              clear hc hn hx1
              go_wp2_with fail
              have r1 : (0 : Int) ≤ (j : Int) + 1 + 1 + 1 := by omega
              have r2 : (j : Int) + 1 + 1 + 1 < (s.size : Int) := by omega
              have r3 : (0 : Int) ≤ (j : Int) + 1 + 1 + 2 := by omega
              have r4 : (j : Int) + 1 + 1 + 2 < (s.size : Int) := by omega
              have t1 : ((j : Int) + 1 + 1 + 1).toNat = j + 1 + 1 + 1 := by omega
              have t2 : ((j : Int) + 1 + 1 + 2).toNat = j + 1 + 1 + 2 := by omega
              have s1 : IntKind.i64.wrap ((j : Int) + 1 + 1 + 1) = (j : Int) + 1 + 1 + 1 := by rw [IntKind.wrap_i64]; omega
              have s2 : IntKind.i64.wrap ((j : Int) + 1 + 1 + 2) = (j : Int) + 1 + 1 + 2 := by rw [IntKind.wrap_i64]; omega
              have hId : Lib.IsBuilder 54 5 w.heap.size w.heap.size (Lib.byteCells acc) wr.drew := hI
              have hBd : Below w.heap.size w wr.drew := hB.drew
              go_cut [] (fun wc => Lib.IsBuilder 54 5 w.heap.size w.heap.size (Lib.byteCells acc ++ [.int .u8 (hxP s[j + 1 + 1 + 1] s[j + 1 + 1 + 2])]) wc ∧ Below w.heap.size w wc)
              case first =>
                go_region_with (first | (go_at_call 52; refine (idxc_any [48, 49, 50, 51, 52, 53, 54, 55, 56, 57, 97, 98, 99, 100, 101, 102] _ _).mono ?_; rintro e w' ⟨rfl, rfl⟩) | (go_at_call 47; refine (writeByte_any _ _ _ (hxP s[j + 1 + 1 + 1] s[j + 1 + 1 + 2]) _ hId (by rw [Lib.byteCells_length]; omega) hBd.size).mono ?_; rintro e w2 ⟨rfl, h2, b2⟩))
                all_goals
                  go_wp2
                  go_meet
                  case rel => exact ⟨h2, hBd.trans b2⟩
              case rest =>
                obtain ⟨h2, hB2⟩ := hcut
                go_wp2
                go_roundw
                case rel =>
                  refine ⟨j + 4, acc ++ [hxB s[j + 1 + 1 + 1] s[j + 1 + 1 + 2]], by go_num, ?_, by simp; omega, by omega, ?_, hB2⟩
                  · refine Lib.hid ?_
                    have := hacc.out
                    rw [hd.out, hd2.out, hd3.out, hd4.out, show s[j + 1] = 92 from UInt8.toNat_inj.1 (by show _ = 92; omega), show s[j + 1 + 1] = 120 from UInt8.toNat_inj.1 (by show _ = 120; omega), unq_x] at this
                    rw [List.append_assoc, ← this]
                    rfl
                  · rw [Lib.byteCells_append]
                    have e : Lib.byteCells [hxB s[j + 1 + 1 + 1] s[j + 1 + 1 + 2]] = [.int .u8 (hxP s[j + 1 + 1 + 1] s[j + 1 + 1 + 2])] := by simp [Lib.byteCells, hxB_toNat]
                    rw [e]
                    exact h2
                case measure => simp [intOf]; omega
            · by_cases hx1 : s[j + 1 + 1].toNat = 120
              · have g1 : 92 ≤ s[j + 1].toNat := by omega
                have g2 : s[j + 1].toNat ≤ 92 := by omega
                have g3 : 120 ≤ s[j + 1 + 1].toNat := by omega
                have g4 : s[j + 1 + 1].toNat ≤ 120 := by omega
                have HU := Lib.hid (show unq (92 :: 120 :: (mid s).drop (j + 1 + 1)) = 120 :: unq ((mid s).drop (j + 1 + 1)) from unq_xs _ (by rw [List.length_drop, mid_len]; omega))
                have q8 : ¬ ((j : Int) + 1 + 1 + 2 < (s.size : Int) - 1) := by omega
                clear hc hn hx hx1
                go_wp2_with fail
                refine (writeByte_any _ _ _ 120 _ hI (by rw [Lib.byteCells_length]; omega) hB.size).mono ?_
                rintro e w2 ⟨rfl, h2, b2⟩
                have hB2 := hB.trans b2
                go_wp2
                go_roundw
                case rel =>
                  refine ⟨j + 2, acc ++ [120], by go_num, ?_, by simp; omega, by omega, ?_, hB2⟩
                  · refine Lib.hid ?_
                    have := hacc.out
                    rw [hd.out, hd2.out, show s[j + 1] = 92 from UInt8.toNat_inj.1 (by show _ = 92; omega), show s[j + 1 + 1] = 120 from UInt8.toNat_inj.1 (by show _ = 120; omega), HU.out] at this
                    rw [List.append_assoc, ← this]
                    rfl
                  · rw [Lib.byteCells_append]
                    exact h2
                case measure => simp [intOf]; omega
              · have g1 : 92 ≤ s[j + 1].toNat := by omega
                have g2 : s[j + 1].toNat ≤ 92 := by omega
                have HU := Lib.hid (show unq (92 :: s[j + 1 + 1] :: (mid s).drop (j + 1 + 1)) = s[j + 1 + 1] :: unq ((mid s).drop (j + 1 + 1)) from unq_d _ _ (fun h => hn (by rw [h]; rfl)) (fun h => hx1 (by rw [h]; rfl)))
                have g5 : ((s[j + 1 + 1].toNat : Int) == 110) = false := by simp; omega
                have g6 : ((s[j + 1 + 1].toNat : Int) == 120) = false := by simp; omega
                clear hc hn hx hx1
                go_wp2_with fail
                refine (writeByte_any _ _ _ _ _ hI (by rw [Lib.byteCells_length]; omega) hB.size).mono ?_
                rintro e w2 ⟨rfl, h2, b2⟩
                have hB2 := hB.trans b2
                go_wp2
                go_roundw
                case rel =>
                  refine ⟨j + 2, acc ++ [s[j + 1 + 1]], by go_num, ?_, by simp; omega, by omega, ?_, hB2⟩
                  · refine Lib.hid ?_
                    have := hacc.out
                    rw [hd.out, hd2.out, show s[j + 1] = 92 from UInt8.toNat_inj.1 (by show _ = 92; omega), HU.out] at this
                    rw [List.append_assoc, ← this]
                    rfl
                  · rw [Lib.byteCells_append]
                    exact h2
                case measure => simp [intOf]; omega
        · have g1 : 92 ≤ s[j + 1].toNat := by omega
          have g2 : s[j + 1].toNat ≤ 92 := by omega
          have q8 : (s.size : Int) - 1 ≤ (j : Int) + 1 + 1 := by omega
          have hnil := Lib.hid (show (mid s).drop (j + 1) = [] from List.drop_of_length_le (by rw [mid_len]; omega))
          clear hc
          go_wp2_with fail
          refine (writeByte_any _ _ _ 92 _ hI (by rw [Lib.byteCells_length]; omega) hB.size).mono ?_
          rintro e w2 ⟨rfl, h2, b2⟩
          have hB2 := hB.trans b2
          go_wp2
          go_roundw
          case rel =>
            refine ⟨j + 1, acc ++ [92], by go_num, ?_, by simp; omega, by omega, ?_, hB2⟩
            · refine Lib.hid ?_
              have := hacc.out
              rw [hd.out, hnil.out, show s[j + 1] = 92 from UInt8.toNat_inj.1 (by show _ = 92; omega), unq_last] at this
              rw [List.append_assoc, hnil.out, ← this]
              rfl
            · rw [Lib.byteCells_append]
              exact h2
          case measure => simp [intOf]; omega
      · have HU := Lib.hid (unq_plain s[j + 1] ((mid s).drop (j + 1)) (fun h => hc (by rw [h]; rfl)))
        have g5 : ((s[j + 1].toNat : Int) != 92) = true := by simp; omega
        go_wp2_with fail
        refine (writeByte_any _ _ _ _ _ hI (by rw [Lib.byteCells_length]; omega) hB.size).mono ?_
        rintro e w2 ⟨rfl, h2, b2⟩
        have hB2 := hB.trans b2
        go_wp2
        go_roundw
        case rel =>
          refine ⟨j + 1, acc ++ [s[j + 1]], by go_num, ?_, by simp; omega, by omega, ?_, hB2⟩
          · refine Lib.hid ?_
            have := hacc.out
            rw [hd.out, HU.out] at this
            rw [List.append_assoc, ← this]
            rfl
          · rw [Lib.byteCells_append]
            exact h2
        case measure => simp [intOf]; omega
    · have hj2 : j = s.size - 2 := by omega
      have hfin : acc = unq (mid s) := by
        have := hacc.out
        rw [List.drop_of_length_le (by rw [mid_len]; omega)] at this
        simpa [unq, unqF] using this
      have hq0 : ¬ ((j : Int) + 1 < (s.size : Int) - 1) := by omega
      have hal2 : (unq (mid s)).length ≤ 1000000 := by rw [← hfin]; omega
      clear hacc
      have hIF := Lib.IsBuilderF.of hI
      rw [hfin] at hIF
      clear hfin hI hal hj2
      go_wp2_with fail
      refine (Tryd.Builder_String_any_f _ _ _ _ hIF hB.size).mono ?_
      rintro e w1 ⟨rfl, h1, b1⟩
      have hB1 := hB.trans b1
      go_wp2_with fail
      refine (quote_any ⟨(unq (mid s)).toArray⟩ _ (by simpa [ByteArray.size] using hal2)).mono ?_
      rintro e w2 ⟨rfl, b2⟩
      have hB2 : Below w.heap.size w w2 := below_then hB1 hB1.size b2
      have h2 := isBuilderF_below h1 b2
      by_cases hq : quo (unq (mid s)) = s.data.toList
      · have hq1 : (quo (unq (mid s)) == s.toList) = true := by rw [Lib.toList_data]; simpa using hq
        have hq2 : unqV s = .tuple #[.string ⟨(unq (mid s)).toArray⟩, .bool true] := if_pos hq
        have hq2' := Lib.hid hq2
        clear hq hq2
        go_wp2_with fail
        refine (Tryd.Builder_String_any_f _ _ _ _ h2 hB2.size).mono ?_
        rintro e w3 ⟨rfl, _, b3⟩
        have hB3 := hB2.trans b3
        go_wp2
        go_ret2
        exact ⟨by rw [hq2'.out]; rfl, hB3⟩
      · have hq1 : (quo (unq (mid s)) == s.toList) = false := by rw [Lib.toList_data]; simpa using hq
        have hq2 : unqV s = .tuple #[.string ⟨#[]⟩, .bool false] := if_neg hq
        have hq2' := Lib.hid hq2
        clear hq hq2
        go_wp2
        go_ret2
        exact ⟨by rw [hq2'.out]; rfl, hB2⟩
end Go.Proofs.YtfefbnfmngdicaaDoor.PX
