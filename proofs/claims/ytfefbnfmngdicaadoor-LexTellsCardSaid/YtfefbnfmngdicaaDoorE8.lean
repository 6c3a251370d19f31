/- errataref17.operator, walked by hand, in the printed functions' own form. -/
import Derived.Test.YtfefbnfmngdicaaDoorX1
import Derived.Test.YtfefbnfmngdicaaDoorPlain
import Derived.Deep.LoopGhost
import Derived.Deep.CutBlock
namespace Go.Proofs.YtfefbnfmngdicaaDoor.PX
set_option linter.unusedVariables false
set_option linter.unusedSimpArgs false
open Go.RowKit Go.Proofs.YtfefbnfmngdicaaDoorW.PrintWords Go.Proofs.YtfefbnfmngdicaaDoorW.PrintLast Go.Proofs.YtfefbnfmngdicaaDoorW.PrintMore

def opAll : ByteArray := ⟨#[61, 60, 62, 43, 45, 42, 47, 37, 40, 41, 44, 46, 58, 63]⟩
def opB (c d : Int) : Bool := (((c == 33 || c == 60) || c == 62) && d == 61) || (c == 43 && d == 43)
def opI (l : List UInt8) (c : Int) : Int := if l.any (fun x => (x.toNat : Int) == c) then 1 else 0
/-- The length of the operator that begins with two bytes. -/
def opN (c d : Int) : Int := if opB c d then 2 else opI opAll.data.toList c
def opD (s : ByteArray) (i : Nat) : Int := if h : i + 1 < s.size then (s[i + 1].toNat : Int) else 0
set_option maxHeartbeats 4000000 in
set_option maxRecDepth 100000 in
theorem op_walk (s : ByteArray) (i : Nat) (hi : i < s.size) (hs : s.size ≤ 1000000000) (w : World) (c d : Int) (hc0 : (s[i].toNat : Int) = c) (hd0 : opD s i = d) :
    Calls Tryd.prog 86 #[.string s, .int .i64 i] w fun e w' => e = .returned (.int .i64 (opN c d)) ∧ w' = w := by
  have i0 : (0 : Int) ≤ (i : Int) := by omega
  have i1 : (i : Int) < (s.size : Int) := by omega
  have q1 : IntKind.i64.wrap ((i : Int) + 1) = (i : Int) + 1 := w64x (by omega) (by omega)
  have hc := Aside0.mk hc0
  have hdd := Aside0.mk hd0
  clear hc0 hd0
  go_enter Tryd.func86, Tryd.ntmps86
  go_upto_if 16 with fail
  go_cut [5, 6] (fun v5 v6 wx => v5 = .int .u8 c ∧ v6 = .int .u8 d ∧ wx = w)
  case first =>
    by_cases h1 : i + 1 < s.size
    · have hd : Aside0 (opD s i = (s[i + 1].toNat : Int)) := ⟨dif_pos h1⟩
      have j0 : (0 : Int) ≤ (i : Int) + 1 := by omega
      have j1 : (i : Int) + 1 < (s.size : Int) := by omega
      go_wp2_with fail
      go_meet
      exact ⟨congrArg (Value.int .u8) hc.out, congrArg (Value.int .u8) (hd.out.symm.trans hdd.out), rfl⟩
    · have hd : Aside0 (opD s i = 0) := ⟨dif_neg h1⟩
      have j1 : ¬ (i : Int) + 1 < (s.size : Int) := by omega
      go_wp2_with fail
      go_meet
      exact ⟨congrArg (Value.int .u8) hc.out, congrArg (Value.int .u8) (hd.out.symm.trans hdd.out), rfl⟩
  case rest =>
    obtain ⟨rfl, rfl, rfl⟩ := hcut
    obtain ⟨wo, rfl⟩ : ∃ wo : World, wo = wc := ⟨_, rfl⟩
    clear hc hdd i0 i1 q1 hi hs
    go_upto_region 5 with fail
    go_cut [5, 6, 42] (fun v5 v6 v42 wx => v5 = .int .u8 c ∧ v6 = .int .u8 d ∧ v42 = .bool (opB c d) ∧ wx = wo)
    case first =>
      go_wp2_with fail
      all_goals go_meet
      all_goals exact ⟨congrArg (Value.int .u8) (by simp [*]), congrArg (Value.int .u8) (by simp [*]), congrArg Value.bool (by unfold opB; simp [*]), rfl⟩
    case rest =>
      obtain ⟨rfl, rfl, rfl, rfl⟩ := hcut
      have hfin : Aside0 (opN c d = if opB c d = true then 2 else opI opAll.data.toList c) := ⟨rfl⟩
      revert hfin
      generalize opB c d = bb
      intro hfin
      cases bb with
      | true =>
        have hf2 : Aside0 (opN c d = 2) := ⟨by rw [hfin.out, if_pos rfl]⟩
        go_wp2_with fail
        go_ret
        rw [hf2.out]
        exact ⟨rfl, rfl⟩
      | false =>
        have hf2 : Aside0 (opN c d = opI opAll.data.toList c) := ⟨by rw [hfin.out, if_neg (by decide)]⟩
        clear hfin
        obtain ⟨w2, rfl⟩ : ∃ w2 : World, w2 = wc := ⟨_, rfl⟩
        go_wp2_with fail
        have hsz : opAll.size = 14 := rfl
        change Code.wp _ _ _ _ _
        have hal : (⟨#[61, 60, 62, 43, 45, 42, 47, 37, 40, 41, 44, 46, 58, 63]⟩ : ByteArray) = opAll := rfl
        rw [hal]
        clear hal
        revert hsz hf2
        generalize opAll = al
        intro hf2 hsz
        have hz1 : al.size ≤ 14 := Nat.le_of_eq hsz
        have HZ := Aside0.mk hsz
        clear hsz
        go_loopg [8] al.size (fun n v8 wr => ∃ k : Nat, n = al.size - k ∧ v8 = .int .i64 k ∧ k ≤ al.size ∧ Aside0 (opI (al.data.toList.drop k) c = opI al.data.toList c) ∧ wr = w2)
        case atStart => exact ⟨0, rfl, rfl, Nat.zero_le _, ⟨rfl⟩, rfl⟩
        case round =>
          obtain ⟨k, rfl, rfl, hk, hq, rfl⟩ := hrel
          by_cases hlt : k < al.size
          · have hd : al.data.toList.drop k = al[k] :: al.data.toList.drop (k + 1) := by
              rw [List.drop_eq_getElem_cons (by rw [sz_toList]; exact hlt)]; rfl
            have k0 : (0 : Int) ≤ (k : Int) := by omega
            have k1 : (k : Int) < (al.size : Int) := by omega
            have k2 : IntKind.i64.wrap ((k : Int) + 1) = ((k + 1 : Nat) : Int) := by rw [w64x (by omega) (by omega)]; omega
            cases he : ((al[k].toNat : Int) == c) with
            | true =>
              have hf3 : Aside0 (opN c d = 1) := ⟨by
                rw [hf2.out, ← hq.out, hd]
                unfold opI
                rw [List.any_cons, he, Bool.true_or, if_pos rfl]⟩
              clear hd
              go_wp2_with fail
              go_ret
              rw [hf3.out]
              exact ⟨rfl, rfl⟩
            | false =>
              have hq2 : Aside0 (opI (al.data.toList.drop (k + 1)) c = opI al.data.toList c) := ⟨by
                rw [← hq.out, hd]
                unfold opI
                rw [List.any_cons, he, Bool.false_or]⟩
              clear hd
              go_wp2_with fail
              go_roundg (al.size - (k + 1))
              case measure => omega
              case rel => exact ⟨k + 1, rfl, rfl, by omega, hq2, rfl⟩
          · have hf3 : Aside0 (opN c d = 0) := ⟨by
              rw [hf2.out, ← hq.out, List.drop_of_length_le (by rw [sz_toList]; omega)]
              rfl⟩
            have k1 : ¬ (k : Int) < (al.size : Int) := by omega
            go_wp2_with fail
            go_ret
            rw [hf3.out]
            exact ⟨rfl, rfl⟩
def errataref17_operator.f (a0 : ByteArray) (a1 : Int) : Option Int := if h : 0 ≤ a1 ∧ a1.toNat < a0.size ∧ a0.size ≤ 1000000000 then some (opN ((a0[a1.toNat]'h.2.1).toNat : Int) (opD a0 a1.toNat)) else none
theorem errataref17_operator.calls (a0 : ByteArray) (a1 : Int) (r : Int) (w : World) (h : errataref17_operator.f a0 a1 = some r) :
    Calls Tryd.prog 86 #[.string a0, .int .i64 a1] w fun e w' => e = .returned (.int .i64 r) ∧ Drawn0 w w' := by
  unfold errataref17_operator.f at h
  split at h
  · rename_i hh
    obtain ⟨i, rfl⟩ := Int.eq_ofNat_of_zero_le hh.1
    refine (op_walk a0 i (by have := hh.2.1; rwa [Int.toNat_natCast] at this) hh.2.2 w _ _ rfl rfl).mono fun e w' ⟨he, hw⟩ => ⟨?_, hw ▸ Drawn0.refl _⟩
    rw [he, ← Option.some.inj h]
    rfl
  · cases h
end Go.Proofs.YtfefbnfmngdicaaDoor.PX
