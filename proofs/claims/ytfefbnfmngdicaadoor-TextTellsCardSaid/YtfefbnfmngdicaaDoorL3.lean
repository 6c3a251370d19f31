/- What the printed functions of a pattern's parts compute, plainly. -/
import Derived.Test.YtfefbnfmngdicaaDoorL2
import Derived.Test.YtfefbnfmngdicaaDoorPX15
namespace Go.Proofs.YtfefbnfmngdicaaDoor.PX
set_option linter.unusedVariables false
set_option linter.unusedSimpArgs false
open Go.RowKit Go.Proofs.YtfefbnfmngdicaaDoorW.PrintWords Go.Proofs.YtfefbnfmngdicaaDoorW.PrintLast

theorem w64 {x : Int} (h0 : -9223372036854775808 ≤ x) (h1 : x ≤ 9223372036854775807) : wrap64 x = x := by
  unfold wrap64
  omega
theorem bt_nat (s : ByteArray) (i : Nat) (h : i < s.size) : bt s (i : Int) = (s[i].toNat : Int) := by
  unfold bt
  rw [dif_pos (by simpa using h)]
  rfl
theorem get_list (s : ByteArray) (i : Nat) (h : i < s.size) : s[i] = s.data.toList[i]'(by rw [sz_toList]; exact h) := by
  rw [Array.getElem_toList]
  rfl
theorem idx_findB (l : List UInt8) : Lib.indexByte l 93 = match findB l with | none => -1 | some n => (n : Int) := by
  induction l with
  | nil => rfl
  | cons c r ih =>
    unfold Lib.indexByte findB
    by_cases h : c = 93
    · simp [h]
    · rw [if_neg (by simpa using h), if_neg h, ih]
      cases findB r with
      | none => rfl
      | some n =>
        have : ¬ ((n : Int) == -1) = true := by rw [beq_iff_eq]; omega
        simp only [Option.map_some]
        rw [if_neg this]
        rfl
theorem ext_list (s : ByteArray) (a b : Nat) : (s.extract a b).data.toList = (s.data.toList.drop a).take (b - a) := by
  rw [ByteArray.data_extract, Array.toList_extract, List.extract_eq_take_drop]
theorem ext_end (s : ByteArray) (a : Nat) : (s.extract a s.size).data.toList = s.data.toList.drop a := by
  rw [ext_list, List.take_of_length_le (by rw [List.length_drop, sz_toList]; exact Nat.le_refl _)]
theorem ba_ext {a b : ByteArray} (h : a.data.toList = b.data.toList) : a = b := by
  cases a; cases b
  congr 1
  exact Array.ext' h

theorem closing_eq (p : ByteArray) (f : Nat) (hp : p.size ≤ 1000000) (hf : f ≤ p.size + 5) :
    text_closing.f p (f : Int) = some (match closeAt (p.data.toList.drop f) with | none => -1 | some n => (f : Int) + n) := by
  unfold text_closing.f
  rw [w64 (x := (f : Int) + 1) (by omega) (by omega)]
  by_cases h : p.size < f + 1
  · rw [if_pos (by omega), List.drop_of_length_le (by rw [sz_toList]; omega)]
    rfl
  · rw [if_neg (by omega)]
    have hm : mn ((f : Int) + 1) (p.size : Int) = (f : Int) + 1 := by unfold mn; rw [if_neg (by omega)]
    rw [hm, if_pos (by omega), if_pos (by omega)]
    have e : ((f : Int) + 1).toNat = f + 1 := by omega
    rw [e]
    simp only [strings_IndexByte.f, Option.bind_some]
    rw [ext_end]
    have e2 : p.data.toList.drop f = p.data.toList[f]'(by rw [sz_toList]; omega) :: p.data.toList.drop (f + 1) := List.drop_eq_getElem_cons _
    have e3 : ((93 : Int).toNat.toUInt8) = 93 := rfl
    rw [e3, idx_findB, e2]
    simp only [closeAt]
    cases hb : findB (p.data.toList.drop (f + 1)) with
    | none => rfl
    | some n =>
      have hl := findB_lt _ _ hb
      rw [List.length_drop, sz_toList] at hl
      simp only [Option.map_some]
      rw [if_neg (by omega), w64 (by omega) (by omega)]
      show some ((f : Int) + 1 + (n : Int)) = some ((f : Int) + ((n + 1 : Nat) : Int))
      congr 1
      omega

/-- The class that begins at a place. -/
def clsR (p : ByteArray) (i : Nat) : Int × Bool × ByteArray × Bool :=
  match cls (p.data.toList.drop (i + 1)) with
  | none => (0, false, ⟨#[]⟩, false)
  | some (n, neg, set) => ((i : Int) + 1 + n, neg, ⟨set.toArray⟩, true)
theorem ext_mk (s : ByteArray) (a b : Nat) : s.extract a b = ⟨((s.data.toList.drop a).take (b - a)).toArray⟩ := ba_ext (by rw [ext_list])
theorem cls_no (r : List UInt8) (h : (if r.head? = some 33 then closeAt (r.drop 1) else none) = none) : cls r = (closeAt r).map fun n => (n, false, r.take n) := by
  unfold cls
  rw [h]
theorem cls_neg (r : List UInt8) (n : Nat) (h0 : r.head? = some 33) (h : closeAt (r.drop 1) = some n) : cls r = some (n + 1, true, (r.drop 1).take n) := by
  unfold cls
  rw [if_pos h0, h]

theorem class_plain (p : ByteArray) (i : Nat) (hp : p.size ≤ 1000000) (hi : i < p.size) (h : (if (p.data.toList.drop (i + 1)).head? = some 33 then closeAt ((p.data.toList.drop (i + 1)).drop 1) else none) = none) :
    ((text_closing.f p ((i : Int) + 1)).bind fun t106 => (if t106 < 0 then (some (0, false, (⟨#[]⟩ : ByteArray), false)) else (if 0 ≤ (i : Int) + 1 then (if (i : Int) + 1 ≤ t106 then (if t106 ≤ (p.size : Int) then (some (t106, false, p.extract ((i : Int) + 1 : Int).toNat (t106 : Int).toNat, true)) else (none)) else (none)) else (none)))) = some (clsR p i) := by
  have hcl := closing_eq p (i + 1) hp (by omega)
  rw [show ((i + 1 : Nat) : Int) = (i : Int) + 1 from by omega] at hcl
  rw [hcl]
  unfold clsR
  rw [cls_no _ h]
  simp only [Option.bind_some]
  cases hc : closeAt (p.data.toList.drop (i + 1)) with
  | none => rfl
  | some n =>
    have hl := (closeAt_lt _ _ hc).1
    rw [List.length_drop, sz_toList] at hl
    simp only [Option.map_some]
    rw [if_neg (by omega), if_pos (by omega), if_pos (by omega), if_pos (by omega), ext_mk]
    have e1 : ((i : Int) + 1).toNat = i + 1 := by omega
    have e2 : ((i : Int) + 1 + (n : Int)).toNat - (i + 1) = n := by omega
    rw [e1, e2]

theorem class_eq (k : Nat) (p : ByteArray) (i : Nat) (hp : p.size ≤ 1000000) (hi : i < p.size) (hk : 1 ≤ k) :
    text_class.f k p (i : Int) = some (clsR p i) := by
  obtain ⟨k, rfl⟩ : ∃ m, k = m + 1 := ⟨k - 1, by omega⟩
  unfold text_class.f
  rw [w64 (x := (i : Int) + 1) (by omega) (by omega)]
  by_cases h1 : i + 1 < p.size
  · rw [if_pos (by omega), if_pos (by omega)]
    have hb := bt_nat p (i + 1) h1
    rw [show ((i + 1 : Nat) : Int) = (i : Int) + 1 from by omega] at hb
    have hh : (p.data.toList.drop (i + 1)).head? = some p[i + 1] := by
      rw [List.drop_eq_getElem_cons (by rw [sz_toList]; exact h1), get_list p (i + 1) h1]
      rfl
    rw [hb]
    by_cases h33 : p[i + 1] = 33
    · have e : ((p[i + 1].toNat : Int) == 33) = true := by rw [h33]; rfl
      rw [e]
      simp only [text_class.j0]
      rw [if_pos trivial, w64 (x := (i : Int) + 1 + 1) (by omega) (by omega)]
      have hcl := closing_eq p (i + 1 + 1) hp (by omega)
      rw [show ((i + 1 + 1 : Nat) : Int) = (i : Int) + 1 + 1 from by omega] at hcl
      rw [hcl]
      simp only [Option.bind_some]
      cases hc : closeAt (p.data.toList.drop (i + 1 + 1)) with
      | none =>
        simp only
        rw [if_neg (by decide)]
        exact class_plain p i hp hi (by rw [hh, h33, if_pos rfl, List.drop_drop]; exact hc)
      | some n =>
        have hl := (closeAt_lt _ _ hc).1
        rw [List.length_drop, sz_toList] at hl
        simp only
        rw [if_pos (by omega), if_pos (by omega), if_pos (by omega), if_pos (by omega), ext_mk]
        unfold clsR
        rw [cls_neg _ n (by rw [hh, h33]) (by rw [List.drop_drop]; exact hc)]
        have e1 : ((i : Int) + 1 + 1).toNat = i + 1 + 1 := by omega
        have e2 : ((i : Int) + 1 + 1 + (n : Int)).toNat - (i + 1 + 1) = n := by omega
        simp only
        rw [e1, e2, List.drop_drop]
        congr 2
        omega
    · have e : ((p[i + 1].toNat : Int) == 33) = false := by
        rw [beq_eq_false_iff_ne]
        intro hx
        exact h33 (UInt8.toNat_inj.1 (by show _ = 33; omega))
      rw [e]
      simp only [text_class.j0]
      rw [if_neg (by decide)]
      exact class_plain p i hp hi (by rw [hh, if_neg (by simpa using h33)])
  · rw [if_neg (by omega)]
    simp only [text_class.j0]
    rw [if_neg (by decide)]
    exact class_plain p i hp hi (by rw [List.drop_of_length_le (by rw [sz_toList]; omega)]; rfl)

theorem u8_beq (a b : UInt8) : (a == b) = ((a.toNat : Int) == (b.toNat : Int)) := by
  rw [Bool.eq_iff_iff, beq_iff_eq, beq_iff_eq]
  constructor
  · rintro rfl; rfl
  · intro h; exact UInt8.toNat_inj.1 (by omega)

theorem in_step (set : ByteArray) (c : UInt8) (hs : set.size ≤ 1000000) : ∀ (d j k : Nat), set.size - j ≤ d → j ≤ set.size → 2 * d + 1 ≤ k →
    text_in.l0 k set (c.toNat : Int) (j : Int) = some (inSet (set.data.toList.drop j) c) := by
  intro d
  induction d using Nat.strongRecOn with
  | _ d ih =>
    intro j k hd hj hk
    obtain ⟨k, rfl⟩ : ∃ m, k = m + 1 := ⟨k - 1, by omega⟩
    simp only [text_in.l0]
    by_cases h : j < set.size
    · rw [if_pos (by omega)]
      obtain ⟨k, rfl⟩ : ∃ m, k = m + 1 := ⟨k - 1, by omega⟩
      have hd0 : set.data.toList.drop j = set[j] :: set.data.toList.drop (j + 1) := by
        rw [List.drop_eq_getElem_cons (by rw [sz_toList]; exact h), get_list set j h]
      have hb0 := bt_nat set j h
      rw [w64 (x := (j : Int) + 2) (by omega) (by omega), w64 (x := (j : Int) + 1) (by omega) (by omega)]
      have one : (if (bt set (j : Int)) = (c.toNat : Int) then (some true) else (text_in.l0 k set (c.toNat : Int) ((j : Int) + 1))) = some (set[j] == c || inSet (set.data.toList.drop (j + 1)) c) := by
        have := ih (d - 1) (by omega) (j + 1) k (by omega) (by omega) (by omega)
        rw [show ((j + 1 : Nat) : Int) = (j : Int) + 1 from by omega] at this
        rw [this, hb0, u8_beq]
        by_cases e : (set[j].toNat : Int) = (c.toNat : Int)
        · rw [if_pos e, beq_iff_eq.2 e]; rfl
        · rw [if_neg e, beq_eq_false_iff_ne.2 e]; rfl
      by_cases h2 : j + 2 < set.size
      · have hb1 := bt_nat set (j + 1) (by omega)
        have hb2 := bt_nat set (j + 2) h2
        rw [show ((j + 1 : Nat) : Int) = (j : Int) + 1 from by omega] at hb1
        rw [show ((j + 2 : Nat) : Int) = (j : Int) + 2 from by omega] at hb2
        have hd1 : set.data.toList.drop (j + 1) = set[j + 1] :: set.data.toList.drop (j + 2) := by
          rw [List.drop_eq_getElem_cons (by rw [sz_toList]; omega), get_list set (j + 1) (by omega)]
        have hd2 : set.data.toList.drop (j + 2) = set[j + 2] :: set.data.toList.drop (j + 3) := by
          rw [List.drop_eq_getElem_cons (by rw [sz_toList]; omega), get_list set (j + 2) (by omega)]
        rw [if_pos (by omega), if_pos (by omega), if_pos (by omega), hb1]
        simp only [text_in.j1]
        by_cases h45 : set[j + 1] = 45
        · have e : ((set[j + 1].toNat : Int) == 45) = true := by rw [h45]; rfl
          rw [e, if_pos rfl, if_pos (by omega), if_pos (by omega), w64 (x := (j : Int) + 2) (by omega) (by omega), w64 (x := (j : Int) + 2 + 1) (by omega) (by omega), hb0, hb2]
          have := ih (d - 3) (by omega) (j + 3) k (by omega) (by omega) (by omega)
          rw [show ((j + 3 : Nat) : Int) = (j : Int) + 2 + 1 from by omega] at this
          rw [this, hd0, hd1, hd2, inSet, if_pos h45]
          by_cases g1 : set[j].toNat ≤ c.toNat
          · rw [if_pos (by omega), if_pos (by omega), if_pos (by omega), decide_eq_true g1, Bool.true_and]
            by_cases g2 : c.toNat ≤ set[j + 2].toNat
            · rw [if_pos (by omega), decide_eq_true g2]; rfl
            · rw [if_neg (by omega), decide_eq_false g2]; rfl
          · rw [if_neg (by omega), decide_eq_false g1]; rfl
        · have e : ((set[j + 1].toNat : Int) == 45) = false := by
            rw [beq_eq_false_iff_ne]
            intro hx
            exact h45 (UInt8.toNat_inj.1 (by show _ = 45; omega))
          rw [e, if_neg (by decide), if_pos (by omega), if_pos (by omega), w64 (x := (j : Int) + 1) (by omega) (by omega), one, hd0, hd1, hd2, inSet, if_neg h45]
      · rw [if_neg (by omega)]
        simp only [text_in.j1]
        rw [if_neg (by decide), if_pos (by omega), if_pos (by omega), w64 (x := (j : Int) + 1) (by omega) (by omega), one, hd0]
        by_cases h1 : j + 1 < set.size
        · have hd1 : set.data.toList.drop (j + 1) = [set[j + 1]] := by
            rw [List.drop_eq_getElem_cons (by rw [sz_toList]; omega), get_list set (j + 1) h1, List.drop_of_length_le (by rw [sz_toList]; omega)]
          rw [hd1, inSet, inSet]
        · rw [List.drop_of_length_le (by rw [sz_toList]; omega), inSet, inSet, Bool.or_false]
    · rw [if_neg (by omega), List.drop_of_length_le (by rw [sz_toList]; omega)]
      rfl

theorem in_eq (k : Nat) (set : ByteArray) (c : UInt8) (hs : set.size ≤ 1000000) (hk : 2 * set.size + 1 ≤ k) : text_in.f k set (c.toNat : Int) = some (inSet set.data.toList c) := by
  have := in_step set c hs set.size 0 k (by omega) (by omega) hk
  simpa [text_in.f] using this

theorem u8_ne {a : UInt8} {n : Nat} (h : a ≠ UInt8.ofNat n) (hn : n < 256) : ¬ (a.toNat : Int) = (n : Int) := fun e => h (u8_eq (by omega) hn)
theorem one_eq (k : Nat) (p : ByteArray) (i : Nat) (c : UInt8) (hp : p.size ≤ 1000000) (hi : i < p.size) (h42 : p[i] ≠ 42) (hk : 2 * p.size + 10 ≤ k) :
    ∃ f n, part1 (p.data.toList.drop i) = (some f, n) ∧ text_one.f k p (i : Int) (c.toNat : Int) = some ((n : Int), f c) := by
  obtain ⟨k, rfl⟩ : ∃ m, k = m + 1 := ⟨k - 1, by omega⟩
  have hd0 : p.data.toList.drop i = p[i] :: p.data.toList.drop (i + 1) := by
    rw [List.drop_eq_getElem_cons (by rw [sz_toList]; exact hi), get_list p i hi]
  have hb0 := bt_nat p i hi
  unfold text_one.f
  rw [if_pos (by omega), if_pos (by omega), hb0, hd0]
  have rest : ∀ (g : p[i] ≠ 92 ∨ p.size ≤ i + 1), ∃ f n, part1 (p[i] :: p.data.toList.drop (i + 1)) = (some f, n) ∧ text_one.j0 (k + 1) p (i : Int) (c.toNat : Int) false = some ((n : Int), f c) := by
    intro g
    simp only [text_one.j0]
    rw [if_neg (by decide), if_pos (by omega), if_pos (by omega), hb0]
    by_cases h92 : p[i] = 92
    · have hsz : p.size ≤ i + 1 := g.resolve_left (fun h => h h92)
      rw [List.drop_of_length_le (by rw [sz_toList]; omega), h92]
      refine ⟨fun x => x == 92, 1, rfl, ?_⟩
      rw [if_neg (by decide), if_neg (by decide)]
      show some ((1 : Int), (((92 : UInt8).toNat : Int) == (c.toNat : Int))) = some ((1 : Int), (c == 92))
      rw [u8_beq, Bool.beq_comm]
    · by_cases h63 : p[i] = 63
      · rw [h63]
        refine ⟨fun _ => true, 1, rfl, ?_⟩
        rw [if_pos (by decide)]
        rfl
      · have n63 : ¬ (p[i].toNat : Int) = 63 := u8_ne (n := 63) h63 (by decide)
        rw [if_neg n63]
        by_cases h91 : p[i] = 91
        · rw [h91, if_pos (by decide), class_eq k p i hp hi (by omega)]
          simp only [Option.bind_some, clsR]
          cases hc : cls (p.data.toList.drop (i + 1)) with
          | none =>
            refine ⟨fun x => x == 91, 1, ?_, ?_⟩
            · exact part1_none _ hc
            · simp only
              rw [if_neg (by decide)]
              show some ((1 : Int), (((91 : UInt8).toNat : Int) == (c.toNat : Int))) = some ((1 : Int), (c == 91))
              rw [u8_beq, Bool.beq_comm]
          | some x =>
            obtain ⟨n, neg, set⟩ := x
            have hl := cls_lt _ _ _ _ hc
            rw [List.length_drop, sz_toList] at hl
            refine ⟨fun x => inSet set x != neg, n + 2, ?_, ?_⟩
            · exact part1_some _ _ _ _ hc
            · have hset : (⟨set.toArray⟩ : ByteArray).size ≤ p.size := by
                have hl2 : set.length ≤ p.size := by
                  unfold cls at hc
                  split at hc
                  · simp at hc
                    rw [← hc.2.2, List.length_take, List.length_drop, sz_toList]
                    omega
                  · cases hq : closeAt (p.data.toList.drop (i + 1)) with
                    | none => simp [hq] at hc
                    | some m =>
                      simp [hq] at hc
                      rw [← hc.2.2, List.length_take, List.length_drop, sz_toList]
                      omega
                rw [ByteArray.size, List.size_toArray]
                exact hl2
              simp only
              rw [if_pos trivial, in_eq k ⟨set.toArray⟩ c (by omega) (by omega)]
              simp only [Option.bind_some]
              rw [w64 (x := (i : Int) + 1 + (n : Int) + 1) (by omega) (by omega), w64 (by omega) (by omega)]
              show some (_, _) = some (((n + 2 : Nat) : Int), _)
              congr 2
              omega
        · have n91 : ¬ (p[i].toNat : Int) = 91 := u8_ne (n := 91) h91 (by decide)
          rw [if_neg n91]
          refine ⟨fun x => x == p[i], 1, ?_, ?_⟩
          · exact part1_byte _ _ h92 h42 h63 h91
          · show some ((1 : Int), ((p[i].toNat : Int) == (c.toNat : Int))) = some ((1 : Int), (c == p[i]))
            rw [u8_beq, Bool.beq_comm]
  by_cases h92 : p[i] = 92
  · have e : (p[i].toNat : Int) = 92 := by rw [h92]; rfl
    rw [if_pos e, w64 (x := (i : Int) + 1) (by omega) (by omega)]
    by_cases h1 : i + 1 < p.size
    · rw [decide_eq_true (show (i : Int) + 1 < (p.size : Int) by omega)]
      simp only [text_one.j0]
      have hb1 := bt_nat p (i + 1) h1
      rw [show ((i + 1 : Nat) : Int) = (i : Int) + 1 from by omega] at hb1
      have hd1 : p.data.toList.drop (i + 1) = p[i + 1] :: p.data.toList.drop (i + 2) := by
        rw [List.drop_eq_getElem_cons (by rw [sz_toList]; exact h1), get_list p (i + 1) h1]
      rw [if_pos trivial, w64 (x := (i : Int) + 1) (by omega) (by omega), if_pos (by omega), if_pos (by omega), hb1, hd1, h92]
      refine ⟨fun x => x == p[i + 1], 2, rfl, ?_⟩
      show some ((2 : Int), ((p[i + 1].toNat : Int) == (c.toNat : Int))) = some ((2 : Int), (c == p[i + 1]))
      rw [u8_beq, Bool.beq_comm]
    · rw [decide_eq_false (show ¬ (i : Int) + 1 < (p.size : Int) by omega)]
      exact rest (.inr (by omega))
  · rw [if_neg (show ¬ (p[i].toNat : Int) = 92 from u8_ne (n := 92) h92 (by decide))]
    exact rest (.inl h92)
end Go.Proofs.YtfefbnfmngdicaaDoor.PX
