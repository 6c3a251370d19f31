/- Contracts of Decimal, Int, Lines and Fields: out of the shelf's. -/
import Derived.Test.YtfefbnfmngdicaaDoorShelf
import Derived.Test.YtfefbnfmngdicaaDoorPlain
import Derived.Test.YtfefbnfmngdicaaDoorEnv
import Derived.Test.YtfefbnfmngdicaaDoorGate
import Derived.Lib.AtoiErrMem
import Derived.WideLaws
import Derived.WalkSpells
import Derived.WalkKit
import Derived.BigCall
import Derived.Outline
namespace Go.Proofs.YtfefbnfmngdicaaDoor.PX
set_option linter.unusedVariables false
set_option linter.unusedSimpArgs false
open Go.RowKit Go.Proofs.YtfefbnfmngdicaaDoorW.PrintWords Go.Proofs.YtfefbnfmngdicaaDoorW.PrintLast

theorem below_growN (w : World) (k : Nat) (os : Array Obj) : Below w.heap.size w («Sort».grow (w.drewN k) os) :=
  ⟨rfl, rfl, rfl, by show w.heap.size ≤ (w.heap ++ os).size; simp, fun i hi => by
    show (w.heap ++ os)[i]? = _
    rw [Array.getElem?_append_left hi]⟩

def text_Decimal.f (a0 : Int) : Option ByteArray := if -9223372036854775808 ≤ a0 ∧ a0 ≤ 9223372036854775807 then some ⟨(Lib.itoa a0).toArray⟩ else none
set_option maxRecDepth 100000 in
theorem text_Decimal.calls (a0 : Int) (r : ByteArray) (w : World) (hE : Env w) (h : text_Decimal.f a0 = some r) :
    Calls Tryd.prog 21 #[.int .i64 a0] w fun e w' => e = .returned (.string r) ∧ Below w.heap.size w w' := by
  unfold text_Decimal.f at h
  split at h
  · rename_i hb
    obtain ⟨h0, h1⟩ := hb
    have hp := Lib.hid hE.pow
    have hr := Lib.hid (Option.some.inj h)
    clear h hE
    go_enter Tryd.func21, Tryd.ntmps21
    go_wp2_with fail
    refine (Tryd.strconv_Itoa a0 h0 h1 _ hp.out).mono ?_
    rintro e w1 ⟨rfl, k, os, rfl⟩
    go_wp2
    go_ret
    exact ⟨by rw [hr.out]; rfl, below_growN w k os⟩
  · cases h

/-- What Int reads. -/
def intOf64 (l : List UInt8) : Int × Bool :=
  match Lib.parseIntB 64 l with
  | .ok v => if Lib.itoa v = l then (v, true) else (0, false)
  | _ => (0, false)
def text_Int.f (a0 : ByteArray) : Option (Int × Bool) := if a0.size ≤ 1000000 then some (intOf64 a0.data.toList) else none

theorem parse_ok (s : ByteArray) (hs : s.size ≤ 1000000) (v : Int) (h : Lib.parseIntB 64 s.data.toList = .ok v) (w : World) :
    Calls Tryd.prog 53 #[.string s, .int .i64 10, .int .i64 64] w fun e w' => e = .returned (.tuple #[.int .i64 v, .nilIface]) ∧ Below w.heap.size w w' := by
  refine (Tryd.strconv_ParseInt_10_at64_ok s (by omega) v h w).mono ?_
  rintro e w' ⟨rfl, hw⟩
  refine ⟨rfl, ?_⟩
  rcases hw with rfl | ⟨t, rfl⟩
  · exact Below.refl _ _
  · exact Lib.bytesWorld_below w 5 t
theorem parse_bad (s : ByteArray) (hs : s.size ≤ 1000000) (h : ∀ v, Lib.parseIntB 64 s.data.toList ≠ .ok v) (w : World) (hE : Env w) :
    Calls Tryd.prog 53 #[.string s, .int .i64 10, .int .i64 64] w fun e w' => ∃ n N, e = .returned (.tuple #[.int .i64 n, .iface 104 (.pointer (some ⟨N, 0, none⟩))]) ∧ Below w.heap.size w w' := by
  by_cases hp : Lib.parseIntB 64 s.data.toList = .range
  · obtain ⟨tp, p, hv⟩ := hE.rng
    refine (Tryd.strconv_ParseInt_10_at64_range_var s (by omega) hp tp p w hv).mono ?_
    rintro e w' ⟨N, rfl, _, _, hb⟩
    exact ⟨_, N, rfl, hb⟩
  · obtain ⟨tp, p, hv⟩ := hE.syn
    refine (Tryd.strconv_ParseInt_10_at64_syntax_var s (by omega) h hp tp p w hv).mono ?_
    rintro e w' ⟨N, rfl, _, _, hb⟩
    exact ⟨_, N, rfl, hb⟩

set_option maxRecDepth 100000 in
theorem int_bad (s : ByteArray) (hs : s.size ≤ 1000000) (h : ∀ v, Lib.parseIntB 64 s.data.toList ≠ .ok v) (w : World) (hE : Env w) :
    Calls Tryd.prog 20 #[.string s] w fun e w' => e = .returned (.tuple #[.int .i64 0, .bool false]) ∧ Below w.heap.size w w' := by
  have hh := Lib.hid h
  have hE' := Lib.hid hE
  clear h hE
  go_enter Tryd.func20, Tryd.ntmps20
  go_wp2_with fail
  refine (parse_bad s hs hh.out _ hE'.out).mono ?_
  rintro e w1 ⟨n, N, rfl, hb⟩
  go_wp2
  go_ret2
  exact ⟨rfl, hb⟩

theorem lst_eq {a : List UInt8} {b : ByteArray} : (a == b.toList) = decide (a = b.data.toList) := by
  rw [Lib.toList_data, Bool.eq_iff_iff, beq_iff_eq, decide_eq_true_iff]

set_option maxRecDepth 100000 in
theorem int_yes (s : ByteArray) (hs : s.size ≤ 1000000) (v : Int) (h : Lib.parseIntB 64 s.data.toList = .ok v) (he : Lib.itoa v = s.data.toList) (w : World) (hE : Env w) :
    Calls Tryd.prog 20 #[.string s] w fun e w' => e = .returned (.tuple #[.int .i64 v, .bool true]) ∧ Below w.heap.size w w' := by
  have hbd := Lib.parseIntB_bounds h
  have hh := Lib.hid h
  have hE' := Lib.hid hE
  have hq : (Lib.itoa v == s.toList) = true := by rw [lst_eq]; exact decide_eq_true he
  clear h hE he
  go_enter Tryd.func20, Tryd.ntmps20
  go_wp2_with fail
  refine (parse_ok s hs v hh.out _).mono ?_
  rintro e w1 ⟨rfl, hb⟩
  go_wp2_with fail
  refine (Tryd.strconv_FormatInt_10 v (by simpa using hbd.1) (by have := hbd.2; simp at this; omega) _ (envB hE'.out hb).pow).mono ?_
  rintro e w2 ⟨rfl, k, os, rfl⟩
  have hb2 := below_then hb hb.size (below_growN w1 k os)
  go_wp2
  go_ret2
  exact ⟨rfl, hb2⟩

set_option maxRecDepth 100000 in
theorem int_no (s : ByteArray) (hs : s.size ≤ 1000000) (v : Int) (h : Lib.parseIntB 64 s.data.toList = .ok v) (he : ¬ Lib.itoa v = s.data.toList) (w : World) (hE : Env w) :
    Calls Tryd.prog 20 #[.string s] w fun e w' => e = .returned (.tuple #[.int .i64 0, .bool false]) ∧ Below w.heap.size w w' := by
  have hbd := Lib.parseIntB_bounds h
  have hh := Lib.hid h
  have hE' := Lib.hid hE
  have hq : (Lib.itoa v == s.toList) = false := by rw [lst_eq]; exact decide_eq_false he
  clear h hE he
  go_enter Tryd.func20, Tryd.ntmps20
  go_wp2_with fail
  refine (parse_ok s hs v hh.out _).mono ?_
  rintro e w1 ⟨rfl, hb⟩
  go_wp2_with fail
  refine (Tryd.strconv_FormatInt_10 v (by simpa using hbd.1) (by have := hbd.2; simp at this; omega) _ (envB hE'.out hb).pow).mono ?_
  rintro e w2 ⟨rfl, k, os, rfl⟩
  have hb2 := below_then hb hb.size (below_growN w1 k os)
  go_wp2
  go_ret2
  exact ⟨rfl, hb2⟩

theorem text_Int.calls (a0 : ByteArray) (r1 : Int) (r2 : Bool) (w : World) (hE : Env w) (h : text_Int.f a0 = some (r1, r2)) :
    Calls Tryd.prog 20 #[.string a0] w fun e w' => e = .returned (.tuple #[.int .i64 r1, .bool r2]) ∧ Below w.heap.size w w' := by
  unfold text_Int.f at h
  split at h
  · rename_i hs
    have h := Option.some.inj h
    unfold intOf64 at h
    rcases hp : Lib.parseIntB 64 a0.data.toList with v | _ | _
    · rw [hp] at h
      simp only at h
      by_cases he : Lib.itoa v = a0.data.toList
      · rw [if_pos he] at h
        injection h with h1 h2
        subst h1 h2
        exact int_yes a0 hs v hp he w hE
      · rw [if_neg he] at h
        injection h with h1 h2
        subst h1 h2
        exact int_no a0 hs v hp he w hE
    · rw [hp] at h
      injection h with h1 h2
      subst h1 h2
      exact int_bad a0 hs (by rw [hp]; intro v hv; cases hv) w hE
    · rw [hp] at h
      injection h with h1 h2
      subst h1 h2
      exact int_bad a0 hs (by rw [hp]; intro v hv; cases hv) w hE
  · cases h

/-! ### Lines -/
def text_Lines.f (a0 : ByteArray) : Option (List ByteArray) :=
  if a0.size ≤ 1000000 then some (if a0.data.toList = [] then [] else
    Lib.splitB ⟨#[10]⟩ 0 (Lib.countB ⟨(Lib.trimSuffix a0.data.toList [10]).toArray⟩ ⟨#[10]⟩) ⟨(Lib.trimSuffix a0.data.toList [10]).toArray⟩) else none

set_option maxRecDepth 100000 in
theorem lines_nil (s : ByteArray) (h : s.data.toList = []) (w : World) :
    Calls Tryd.prog 15 #[.string s] w fun e w' => e = .returned (.slice none 0 0) ∧ Below w.heap.size w w' := by
  have hq : s.toList = [] := by rw [Lib.toList_data]; exact h
  have hq2 : s.toList.isEmpty = true := by rw [hq]; rfl
  clear hq h
  go_enter Tryd.func15, Tryd.ntmps15
  go_wp2
  go_ret
  exact ⟨rfl, Below.refl _ _⟩

theorem trim_size (l : List UInt8) (n : Nat) (h : l.length ≤ n) : (⟨(Lib.trimSuffix l [10]).toArray⟩ : ByteArray).size ≤ n := by
  have := Lib.trimSuffix_le l [10]
  rw [ByteArray.size, List.size_toArray]
  omega

set_option maxRecDepth 100000 in
theorem lines_some (s : ByteArray) (hs : s.size ≤ 1000000) (h : s.data.toList ≠ []) (w : World) (hE : Env w) :
    Calls Tryd.prog 15 #[.string s] w fun e w' =>
      e = .returned (.slice (some ⟨w.heap.size, 0, none⟩) (Lib.countB ⟨(Lib.trimSuffix s.data.toList [10]).toArray⟩ ⟨#[10]⟩ + 1) (Lib.countB ⟨(Lib.trimSuffix s.data.toList [10]).toArray⟩ ⟨#[10]⟩ + 1)) ∧
      w' = w.alloc (.cells ((Lib.splitB ⟨#[10]⟩ 0 (Lib.countB ⟨(Lib.trimSuffix s.data.toList [10]).toArray⟩ ⟨#[10]⟩) ⟨(Lib.trimSuffix s.data.toList [10]).toArray⟩).map Value.string).toArray 9) := by
  have hq : ¬ s.toList = [] := by rw [Lib.toList_data]; exact h
  have hq2 : s.toList.isEmpty = false := by rw [Bool.eq_false_iff]; intro hh; exact hq (List.isEmpty_iff.1 hh)
  have hl := trim_size s.data.toList 1000000 (by rw [sz_toList]; exact hs)
  obtain ⟨m, hm⟩ := hE.max
  have hm' := Lib.hid hm
  clear hm hE h
  go_enter Tryd.func15, Tryd.ntmps15
  go_wp2_with fail
  refine (Tryd.strings_TrimSuffix s ⟨#[10]⟩ _ (by omega)).mono ?_
  rintro e w1 ⟨rfl, rfl⟩
  go_wp2_with fail
  refine (Tryd.strings_Split ⟨(Lib.trimSuffix s.data.toList [10]).toArray⟩ ⟨#[10]⟩ m _ (by omega) hm'.out (by decide)).mono ?_
  rintro e w1 ⟨rfl, rfl⟩
  go_wp2
  go_ret
  exact ⟨rfl, rfl⟩

theorem splitB_len (s sep : ByteArray) (h1 : 1 ≤ sep.size) : (Lib.splitB sep 0 (Lib.countB s sep) s).length = Lib.countB s sep + 1 := Lib.splitB_all sep h1 0 _ s rfl

theorem text_Lines.calls (a0 : ByteArray) (r : List ByteArray) (w : World) (hE : Env w) (h : text_Lines.f a0 = some r) :
    Calls Tryd.prog 15 #[.string a0] w fun e w' => ∃ v0_ : Value, e = .returned (v0_) ∧ Kd.R Kd.string 9 w' w.heap.size (fun _ => True) v0_ r ∧ Below w.heap.size w w' := by
  unfold text_Lines.f at h
  split at h
  · rename_i hs
    have h := Option.some.inj h
    by_cases hn : a0.data.toList = []
    · rw [if_pos hn] at h
      subst h
      refine (lines_nil a0 hn w).mono ?_
      rintro e w' ⟨rfl, hb⟩
      exact ⟨_, rfl, Kd.R_nil _ _ _ _ _, hb⟩
    · rw [if_neg hn] at h
      refine (lines_some a0 hs hn w hE).mono ?_
      rintro e w' ⟨rfl, rfl⟩
      refine ⟨_, rfl, ?_, (Below.refl _ _).alloc (Nat.le_refl _) _⟩
      have hl := splitB_len ⟨(Lib.trimSuffix a0.data.toList [10]).toArray⟩ ⟨#[10]⟩ (by decide)
      have hc := Lib.countB_le ⟨#[10]⟩ (by decide) _ ⟨(Lib.trimSuffix a0.data.toList [10]).toArray⟩ (Nat.le_refl _)
      have hz := trim_size a0.data.toList 1000000 (by rw [sz_toList]; exact hs)
      rw [h] at hl ⊢
      rw [← hl]
      refine Kd.R_of_own ?_ (fun _ _ => trivial)
      have := World.ownsRow_lit (base := w.heap.size) (e := 9) (size := 1) w (r.map Value.string).toArray r.length (Nat.le_refl _) (by unfold maxLen; omega) (by simp)
      simpa [encs] using this
  · cases h

/-! ### Fields -/
def wht (x : Nat) : Bool := x == 32 || x == 9 || x == 10
set_option maxRecDepth 100000 in
theorem wht_any (x : Nat) (hx : x ≤ 1114111) (w : World) :
    Calls Tryd.prog 50 #[.int .i32 x] w fun e w' => e = .returned (.bool (wht x)) ∧ ∃ q, w' = w.drewN q := by
  by_cases h1 : x = 32
  · subst h1
    go_enter Tryd.func50, Tryd.ntmps50
    go_wp2
    go_ret
    exact ⟨rfl, 0, rfl⟩
  by_cases h2 : x = 9
  · subst h2
    go_enter Tryd.func50, Tryd.ntmps50
    go_wp2
    go_ret
    exact ⟨rfl, 0, rfl⟩
  by_cases h3 : x = 10
  · subst h3
    go_enter Tryd.func50, Tryd.ntmps50
    go_wp2
    go_ret
    exact ⟨rfl, 0, rfl⟩
  have e1 : ((x : Int) == 32) = false := by simp; omega
  have e2 : ((x : Int) == 9) = false := by simp; omega
  have e3 : ((x : Int) == 10) = false := by simp; omega
  have hw := Lib.hid (show wht x = false from by simp [wht, h1, h2, h3])
  clear h1 h2 h3
  go_enter Tryd.func50, Tryd.ntmps50
  go_wp2
  go_ret
  exact ⟨by rw [hw.out]; rfl, 0, rfl⟩

def text_Fields.f (a0 : ByteArray) : Option (List ByteArray) := if a0.size ≤ 1000000 then some (Lib.goFieldsP wht a0) else none

theorem enters50 (args : Array Value) (w : World) : (callFunc 50 args).run Tryd.prog w = .ok (.enter 50 args) w := enters_of Tryd.func50 (by kernel_rfl) rfl args w

set_option maxRecDepth 100000 in
theorem text_Fields.calls (a0 : ByteArray) (r : List ByteArray) (w : World) (h : text_Fields.f a0 = some r) :
    Calls Tryd.prog 17 #[.string a0] w fun e w' => ∃ v0_ : Value, e = .returned (v0_) ∧ Kd.R Kd.string 9 w' w.heap.size (fun _ => True) v0_ r ∧ Below w.heap.size w w' := by
  unfold text_Fields.f at h
  split at h
  · rename_i hs
    have h := Lib.hid (Option.some.inj h)
    go_enter Tryd.func17, Tryd.ntmps17
    go_wp2_with fail
    refine (Tryd.strings_FieldsFunc_runes 50 #[] enters50 wht a0 _ (by omega) (fun W x hx _ => by simpa [FnGives] using wht_any x hx W)).mono ?_
    rintro e w1 ⟨A, rfl, hA, hown, hb⟩
    go_wp2
    go_ret
    refine ⟨_, rfl, ?_, hb⟩
    rw [h.out] at hown ⊢
    exact Kd.R_of_own hown (fun _ _ => trivial)
  · cases h
end Go.Proofs.YtfefbnfmngdicaaDoor.PX
