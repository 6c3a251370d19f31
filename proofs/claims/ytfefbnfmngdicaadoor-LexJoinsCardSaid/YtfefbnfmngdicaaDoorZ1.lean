/- What the four laws of the lexer share: the examples, Lex as a list's function, Same. -/
import Derived.Test.YtfefbnfmngdicaaDoorY2
import Derived.Test.YtfefbnfmngdicaaDoorPY3
import Derived.Test.YtfefbnfmngdicaaDoorE7
namespace Go.Proofs.YtfefbnfmngdicaaDoor.PX
set_option linter.unusedVariables false
set_option linter.unusedSimpArgs false
open Go.RowKit Go.Proofs.YtfefbnfmngdicaaDoorW.PrintWords

theorem w64' {x : Int} (h0 : -9223372036854775808 ≤ x) (h1 : x ≤ 9223372036854775807) : wrap64 x = x := by
  unfold wrap64; omega
theorem lexF (a : ByteArray) (l : List UInt8) (hl : a.data.toList = l) (hs : a.size ≤ 8000) : lex_Lex.f a = some (match lexN l 1 0 with | .error (e, n) => ([], e, n) | .ok us => (us, 0, 0)) := by
  unfold lex_Lex.f
  rw [if_pos (by omega), if_pos hs, hl, lexA_N]
  rfl
theorem lexF_ok (a : ByteArray) (l : List UInt8) (hl : a.data.toList = l) (hs : a.size ≤ 8000) (us : List S43) (h : lexN l 1 0 = .ok us) : lex_Lex.f a = some (us, 0, 0) := by
  rw [lexF a l hl hs, h]
theorem lexF_err (a : ByteArray) (l : List UInt8) (hl : a.data.toList = l) (hs : a.size ≤ 8000) (e n : Int) (h : lexN l 1 0 = .error (e, n)) : lex_Lex.f a = some ([], e, n) := by
  rw [lexF a l hl hs, h]
theorem rd_43 (l : List S43) (i : Nat) (h : i < l.length) : rd_T43 l (i : Int) = l[i] := by
  unfold rd_T43
  rw [Int.toNat_natCast, List.getD_eq_getElem?_getD, List.getElem?_eq_getElem h, Option.getD_some]
theorem same43 (d : Int) : ∀ ys : List S43, (∀ y ∈ ys, -9223372036854775808 ≤ y.f3 + d ∧ y.f3 + d ≤ 9223372036854775807) → sameB (ys.map (shS d)) ys d = true
  | [], _ => rfl
  | y :: ys, hb => by
    have hy := hb y List.mem_cons_self
    rw [List.map_cons, sameB, same43 d ys (fun z hz => hb z (List.mem_cons_of_mem _ hz)), Bool.and_true]
    unfold eqS shS
    rw [w64' hy.1 hy.2]
    simp
theorem same_sh (ys : List S43) (d : Int) (hl : ys.length ≤ 1000000) (hb : ∀ y ∈ ys, -9223372036854775808 ≤ y.f3 + d ∧ y.f3 + d ≤ 9223372036854775807) : errataref17_Same.f (ys.map (shS d)) ys d = some true := by
  unfold errataref17_Same.f
  rw [if_pos (by rw [List.length_map]; exact hl), same43 d ys hb]
theorem same_eq (ys : List S43) (hl : ys.length ≤ 1000000) (hb : ∀ y ∈ ys, 0 ≤ y.f3 ∧ y.f3 ≤ 1000000) : errataref17_Same.f ys ys 0 = some true := by
  have h := same_sh ys 0 hl (fun y hy => by have := hb y hy; omega)
  have e : ys.map (shS 0) = ys := by
    have : ∀ u ∈ ys, shS 0 u = u := fun u _ => by unfold shS; rw [Int.add_zero]
    conv => rhs; rw [← List.map_id ys]
    exact List.map_congr_left (fun u hu => this u hu)
  rw [e] at h
  exact h
theorem small17 (k : Nat) : erratalaw17_small.f (k + 2) = some true := by
  have e1 : lex_Lex.f (⟨#[97, 62, 61, 49, 50, 32, 35, 32, 99]⟩ : ByteArray) = some ([⟨0, bs [97], 0, 1⟩, ⟨3, bs [62, 61], 0, 1⟩, ⟨1, bs [49, 50], 12, 1⟩, ⟨5, bs [], 0, 1⟩], 0, 0) := by kernel_rfl
  have e2 : lex_Lex.f (⟨#[120, 32, 43, 43, 32, 34, 97, 92, 34, 98, 34]⟩ : ByteArray) = some ([⟨0, bs [120], 0, 1⟩, ⟨3, bs [43, 43], 0, 1⟩, ⟨2, bs [97, 34, 98], 0, 1⟩, ⟨5, bs [], 0, 1⟩], 0, 0) := by kernel_rfl
  have b1 : erratalaw17_bad.f (⟨#[48, 49]⟩ : ByteArray) = some true := by kernel_rfl
  have b2 : erratalaw17_bad.f (⟨#[49, 97]⟩ : ByteArray) = some true := by kernel_rfl
  have b3 : erratalaw17_bad.f (⟨#[33]⟩ : ByteArray) = some true := by kernel_rfl
  have b4 : erratalaw17_bad.f (⟨#[34, 97]⟩ : ByteArray) = some true := by kernel_rfl
  unfold erratalaw17_small.f
  rw [e1, e2]
  simp only [Option.bind_some]
  simp [erratalaw17_small.j0, erratalaw17_small.j1, b1, b2, b3, b4, rd_T43, bs, Lib.toList_data]
end Go.Proofs.YtfefbnfmngdicaaDoor.PX
