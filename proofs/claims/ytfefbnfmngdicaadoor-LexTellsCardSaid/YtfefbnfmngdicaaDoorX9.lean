/- The lexer as a plain function on lists of bytes. -/
import Derived.Test.YtfefbnfmngdicaaDoorX4
import Derived.Test.YtfefbnfmngdicaaDoorX5
import Derived.Test.YtfefbnfmngdicaaDoorX6
import Derived.Test.YtfefbnfmngdicaaDoorE3
import Derived.Shelf.Strings.SlTrimAscii
import Derived.Deep.CutBlock
import Derived.Test.YtfefbnfmngdicaaDoorX2
import Derived.Test.YtfefbnfmngdicaaDoorX1F
namespace Go.Proofs.YtfefbnfmngdicaaDoor.PX
set_option linter.unusedVariables false
set_option linter.unusedSimpArgs false
open Go.RowKit Go.Proofs.YtfefbnfmngdicaaDoorW.PrintWords Go.Proofs.YtfefbnfmngdicaaDoorW.PrintLast Go.Proofs.YtfefbnfmngdicaaDoorW.PrintMore

def digs : ByteArray := ⟨#[48, 49, 50, 51, 52, 53, 54, 55, 56, 57]⟩
/-- How many bytes can be part of a word. -/
def wn : List UInt8 → Nat
  | [] => 0
  | c :: r => if ptI (c.toNat : Int) then wn r + 1 else 0
theorem wn_le : ∀ l : List UInt8, wn l ≤ l.length
  | [] => Nat.le_refl _
  | c :: r => by
    have := wn_le r
    unfold wn
    split
    · rw [List.length_cons]; omega
    · omega
theorem wn_cons_t (c : UInt8) (r : List UInt8) (h : ptI (c.toNat : Int) = true) : wn (c :: r) = wn r + 1 := if_pos h
theorem wn_cons_f (c : UInt8) (r : List UInt8) (h : ptI (c.toNat : Int) = false) : wn (c :: r) = 0 := if_neg (by rw [h]; decide)
def hdI (l : List UInt8) : Int := match l with | [] => 0 | c :: _ => (c.toNat : Int)
/-- What a word or a number is: its kind and its number, or the error. -/
def wdL (l : List UInt8) : Except Int (Int × Int) :=
  if digI (hdI l) = true then
    (if Lib.trimS l digs.data.toList ≠ [] ∨ (1 < l.length ∧ l.head? = some 48) then .error 11
     else if (intOf64 l).2 = true then .ok (1, (intOf64 l).1) else .error 3)
  else if nameOk l = true then .ok (0, 0) else .error 11
/-- What a text is: its contents, and how many bytes it takes. -/
def qtL (l : List UInt8) : Option (List UInt8 × Nat) :=
  if qz (l.drop 1) + 1 < l.length then
    (if quo (unq ((l.drop 1).take (qz (l.drop 1)))) = l.take (qz (l.drop 1) + 2) ∧ (unq ((l.drop 1).take (qz (l.drop 1)))).length ≤ 200 then
      some (unq ((l.drop 1).take (qz (l.drop 1))), qz (l.drop 1) + 2) else none)
  else none
/-- What the token at the head of a list is: kind, text, number, and how many bytes it takes; or the error. -/
def tokF (l : List UInt8) : Except Int (Int × List UInt8 × Int × Nat) :=
  match l with
  | [] => .error 11
  | c :: r =>
    if ptI (c.toNat : Int) = true then
      (match wdL ((c :: r).take (wn (c :: r))) with
       | .error e => .error e
       | .ok (k, m) => .ok (k, (c :: r).take (wn (c :: r)), m, wn (c :: r)))
    else if c = 34 then
      (match qtL (c :: r) with
       | none => .error 11
       | some (t, n) => .ok (2, t, 0, n))
    else if c = 10 then .ok (4, [], 0, 1)
    else
      (match opF opl (c :: r) with
       | none => .error 11
       | some o => .ok (3, o, 0, o.length))
/-- The tokens of a list, if so many stand ahead of them: with fuel. -/
def lexG : Nat → List UInt8 → Int → Nat → Except (Int × Int) (List S43)
  | 0, _, _, _ => .error (0, 0)
  | k + 1, l, ln, c =>
    if 3000 ≤ c then .error (6, ln) else
    match skp l with
    | [] => .ok [⟨5, bs [], 0, ln⟩]
    | d :: r =>
      match tokF (d :: r) with
      | .error e => .error (e, ln)
      | .ok (kd, t, m, n) =>
        match lexG k ((d :: r).drop n) (if kd = 4 then ln + 1 else ln) (c + 1) with
        | .error x => .error x
        | .ok us => .ok (⟨kd, bs t, m, ln⟩ :: us)
/-- The tokens of what is left, behind those so far. -/
def lexA (l : List UInt8) (ln : Int) (ts : List S43) : List S43 × Int × Int :=
  match lexG (l.length + 1) l ln ts.length with
  | .error (e, n) => ([], e, n)
  | .ok us => (ts ++ us, 0, 0)

theorem skpF_le : ∀ (k : Nat) (l : List UInt8), (skpF k l).length ≤ l.length
  | 0, l => Nat.le_refl _
  | k + 1, [] => Nat.le_refl _
  | k + 1, c :: r => by
    show (if c = 32 ∨ c = 9 ∨ c = 13 then skpF k r else if c = 35 then skpF k ((c :: r).drop (lfAt (c :: r))) else c :: r).length ≤ _
    split
    · have := skpF_le k r
      rw [List.length_cons]; omega
    · split
      · have := skpF_le k ((c :: r).drop (lfAt (c :: r)))
        rw [List.length_drop] at this
        omega
      · exact Nat.le_refl _
theorem skp_le (l : List UInt8) : (skp l).length ≤ l.length := skpF_le _ _
theorem opF_mem : ∀ (ops : List (List UInt8)) (l o : List UInt8), opF ops l = some o → o ∈ ops ∧ o.isPrefixOf l = true
  | [], _, _, h => by cases h
  | p :: ops, l, o, h => by
    unfold opF at h
    split at h
    · rename_i hp
      obtain rfl := Option.some.inj h
      exact ⟨List.mem_cons_self, hp⟩
    · obtain ⟨a, b⟩ := opF_mem ops l o h
      exact ⟨List.mem_cons_of_mem _ a, b⟩
theorem opl_pos : ∀ o ∈ opl, 1 ≤ o.length := by decide
/-- A token takes at least one byte. -/
theorem tokF_pos {l : List UInt8} {kd : Int} {t : List UInt8} {m : Int} {n : Nat} (h : tokF l = .ok (kd, t, m, n)) : 1 ≤ n := by
  match l, h with
  | [], h => cases h
  | c :: r, h =>
    unfold tokF at h
    simp only at h
    split at h
    · rename_i hp
      split at h
      · cases h
      · injection h with h
        injection h with _ h
        injection h with _ h
        injection h with _ h
        rw [← h, wn_cons_t c r hp]
        omega
    · split at h
      · split at h
        · cases h
        · rename_i hq
          injection h with h
          injection h with _ h
          injection h with _ h
          injection h with _ h
          unfold qtL at hq
          split at hq
          · split at hq
            · injection hq with hq
              injection hq with _ hq
              omega
            · cases hq
          · cases hq
      · split at h
        · injection h with h
          injection h with _ h
          injection h with _ h
          injection h with _ h
          omega
        · split at h
          · cases h
          · rename_i ho
            injection h with h
            injection h with _ h
            injection h with _ h
            injection h with _ h
            rw [← h]
            exact opl_pos _ (opF_mem _ _ _ ho).1
theorem tokF_err {l : List UInt8} {e : Int} (h : tokF l = .error e) : e = 11 ∨ e = 3 := by
  match l, h with
  | [], h => injection h with h; exact .inl h.symm
  | c :: r, h =>
    unfold tokF at h
    simp only at h
    split at h
    · split at h
      · rename_i hw
        injection h with h
        subst h
        unfold wdL at hw
        split at hw
        · split at hw
          · injection hw with hw; exact .inl hw.symm
          · split at hw
            · cases hw
            · injection hw with hw; exact .inr hw.symm
        · split at hw
          · cases hw
          · injection hw with hw; exact .inl hw.symm
      · cases h
    · split at h
      · split at h
        · injection h with h; exact .inl h.symm
        · cases h
      · split at h
        · cases h
        · split at h
          · injection h with h; exact .inl h.symm
          · cases h
theorem lexG_eq : ∀ (k k' : Nat) (l : List UInt8) (ln : Int) (c : Nat), l.length < k → l.length < k' → lexG k l ln c = lexG k' l ln c
  | 0, _, l, _, _, h, _ => absurd h (Nat.not_lt_zero _)
  | _ + 1, 0, l, _, _, _, h => absurd h (Nat.not_lt_zero _)
  | k + 1, k' + 1, l, ln, c, h, h' => by
    unfold lexG
    split
    · rfl
    · have hl := skp_le l
      split
      · rfl
      · rename_i d r hs
        rw [hs] at hl
        split
        · rfl
        · rename_i kd t m n ht
          have hn := tokF_pos ht
          have hc : (d :: r).length = r.length + 1 := rfl
          rw [lexG_eq k k' _ _ _ (by rw [List.length_drop]; omega) (by rw [List.length_drop]; omega)]
theorem lexA_full (l : List UInt8) (ln : Int) (ts : List S43) (h : 3000 ≤ ts.length) : lexA l ln ts = ([], 6, ln) := by
  unfold lexA lexG
  rw [if_pos h]
theorem lexA_end (l : List UInt8) (ln : Int) (ts : List S43) (h : ¬ 3000 ≤ ts.length) (hs : skp l = []) : lexA l ln ts = (ts ++ [⟨5, bs [], 0, ln⟩], 0, 0) := by
  unfold lexA lexG
  rw [if_neg h, hs]
theorem lexA_err (l : List UInt8) (ln : Int) (ts : List S43) (h : ¬ 3000 ≤ ts.length) (d : UInt8) (r : List UInt8) (hs : skp l = d :: r) (e : Int) (ht : tokF (d :: r) = .error e) : lexA l ln ts = ([], e, ln) := by
  unfold lexA lexG
  rw [if_neg h, hs]
  simp only [ht]
theorem lexA_tok (l : List UInt8) (ln : Int) (ts : List S43) (h : ¬ 3000 ≤ ts.length) (d : UInt8) (r : List UInt8) (hs : skp l = d :: r) (kd : Int) (t : List UInt8) (m : Int) (n : Nat) (ht : tokF (d :: r) = .ok (kd, t, m, n)) :
    lexA l ln ts = lexA ((d :: r).drop n) (if kd = 4 then ln + 1 else ln) (ts ++ [⟨kd, bs t, m, ln⟩]) := by
  have hl := skp_le l
  rw [hs] at hl
  have hn := tokF_pos ht
  have hc : (d :: r).length = r.length + 1 := rfl
  unfold lexA
  conv => lhs; unfold lexG
  rw [if_neg h, hs]
  simp only [ht]
  rw [List.length_append, List.length_singleton, lexG_eq l.length (((d :: r).drop n).length + 1) _ _ _ (by rw [List.length_drop]; omega) (by omega)]
  generalize lexG (((d :: r).drop n).length + 1) ((d :: r).drop n) (if kd = 4 then ln + 1 else ln) (ts.length + 1) = R
  cases R with
  | error x => rfl
  | ok us => simp only [List.append_assoc, List.singleton_append]
end Go.Proofs.YtfefbnfmngdicaaDoor.PX

/- The scanner's method word, walked by hand: it takes a word or a number. -/
namespace Go.Proofs.YtfefbnfmngdicaaDoor.PX
set_option linter.unusedVariables false
set_option linter.unusedSimpArgs false
open Go.RowKit Go.Proofs.YtfefbnfmngdicaaDoorW.PrintWords Go.Proofs.YtfefbnfmngdicaaDoorW.PrintLast Go.Proofs.YtfefbnfmngdicaaDoorW.PrintMore

theorem info116 : (Tryd.prog.info? (Tryd.lays160_ren.t 116)).map (fun i => (i.zero, i.size)) = some (some (.agg (Array.replicate 256 (.bool false))), 256) := by kernel_rfl
theorem trim_any (s : ByteArray) (hs : s.size ≤ 1000000) (w : World) : Calls Tryd.prog 104 #[.string s, .string digs] w fun e w' => e = .returned (.string ⟨(Lib.trimS s.data.toList digs.data.toList).toArray⟩) ∧ Below w.heap.size w w' :=
  Go.Proofs.Any.strings_Trim_laid Tryd.lays160 info116 s digs w (by omega) (by decide) (Go.Proofs.ascii_of_all (by decide))

theorem trim_empty (s : ByteArray) (hs : s.size ≤ 1000000) (h : Lib.trimS s.data.toList digs.data.toList = []) (w : World) : Calls Tryd.prog 104 #[.string s, .string ⟨#[48, 49, 50, 51, 52, 53, 54, 55, 56, 57]⟩] w fun e w' => e = .returned (.string ⟨#[]⟩) ∧ Below w.heap.size w w' :=
  (trim_any s hs w).mono fun e w' ⟨he, hb⟩ => ⟨by rw [he, h], hb⟩
theorem trim_some (s : ByteArray) (hs : s.size ≤ 1000000) (r : ByteArray) (h : r = ⟨(Lib.trimS s.data.toList digs.data.toList).toArray⟩) (w : World) : Calls Tryd.prog 104 #[.string s, .string ⟨#[48, 49, 50, 51, 52, 53, 54, 55, 56, 57]⟩] w fun e w' => e = .returned (.string r) ∧ Below w.heap.size w w' :=
  (trim_any s hs w).mono fun e w' ⟨he, hb⟩ => ⟨by rw [he, h], hb⟩
theorem name_b (s : ByteArray) (b : Bool) (h : nameOk s.data.toList = b) (w : World) : Calls Tryd.prog 29 #[.string s] w fun e w' => e = .returned (.bool b) ∧ Below w.heap.size w w' := by
  rw [← h]
  exact name_any s w
def WordDid (B g : Nat) (src : ByteArray) (i n : Nat) (ln : Int) (ts : List S43) (e : Ending) (w' : World) : Prop :=
  match wdL (src.extract i (i + n)).data.toList with
  | .error b => e = .returned (.int .i64 b) ∧ Sc B g src i ln ts w'
  | .ok (kind, m) => e = .returned (.int .i64 0) ∧ Sc B g src (i + n) ln (ts ++ [(⟨kind, src.extract i (i + n), m, ln⟩ : S43)]) w'

set_option maxHeartbeats 2000000 in
set_option maxRecDepth 100000 in
theorem word_any (B g : Nat) (src : ByteArray) (i : Nat) (ln : Int) (ts : List S43) (w : World) (h : Sc B g src i ln ts w) (hE : Env w) (hi : i < src.size) (hp : ptI (src[i].toNat : Int) = true) (hs : src.size ≤ 100000) (hl : ts.length ≤ 1000000) (n : Nat) (hn : wn (src.data.toList.drop i) = n) :
    Calls Tryd.prog 77 #[.pointer (some ⟨g, 0, none⟩)] w fun e w' => WordDid B g src i n ln ts e w' ∧ Below B w w' := by
  have hS := Aside0.mk h
  obtain ⟨hBg, hBw, v, hb, hR⟩ := h
  obtain ⟨A, c, rfl⟩ := Kd.R_slice hR
  have c0 : w.cell? ⟨g, 0, none⟩ = some (.string src) := blk_cell hb 0
  have c1 : w.cell? ⟨g, 1, none⟩ = some (.int .i64 i) := blk_cell hb 1
  have c2 : w.cell? ⟨g, 2, none⟩ = some (.int .i64 ln) := blk_cell hb 2
  have hlt0 : g < w.heap.size := blk_lt hb
  have hE' := Aside0.mk hE
  clear hE
  go_enter Tryd.func77, Tryd.ntmps77
  go_upto_block 0 with fail
  go_cut [3] (fun v3 wc => v3 = .int .i64 ((i + n : Nat) : Int) ∧ wc = w)
  case first =>
    go_wp2_with fail
    go_loopg [3] (src.size + 1 - i) (fun nn v3 wr => ∃ e : Nat, nn = src.size + 1 - e ∧ v3 = .int .i64 e ∧ i ≤ e ∧ e ≤ src.size ∧ Aside0 (e + wn (src.data.toList.drop e) = i + n) ∧ wr = w)
    case atStart => exact ⟨i, rfl, rfl, Nat.le_refl _, by omega, ⟨by rw [hn]⟩, rfl⟩
    case round =>
      obtain ⟨e, rfl, rfl, hie, hes, hq, rfl⟩ := hrel
      by_cases hlt : e < src.size
      · have hd : src.data.toList.drop e = src[e] :: src.data.toList.drop (e + 1) := by
          rw [List.drop_eq_getElem_cons (by rw [sz_toList]; exact hlt)]; rfl
        have i0 : (0 : Int) ≤ (e : Int) := by omega
        have i1 : (e : Int) < (src.size : Int) := by omega
        have p1 : IntKind.i64.wrap ((e : Int) + 1) = ((e + 1 : Nat) : Int) := by rw [w64x (by omega) (by omega)]; omega
        cases hpt : ptI (src[e].toNat : Int) with
        | true =>
          have hq2 : Aside0 (e + 1 + wn (src.data.toList.drop (e + 1)) = i + n) := ⟨by
            have := hq.out
            rw [hd, wn_cons_t _ _ hpt] at this
            omega⟩
          go_wp2_with (go_at_call 76; refine (part_any _ _).mono ?_; rintro e2 w2 ⟨rfl, rfl⟩)
          go_roundg (src.size + 1 - (e + 1))
          case measure => omega
          case rel => exact ⟨e + 1, rfl, rfl, by omega, by omega, hq2, rfl⟩
        | false =>
          have hq2 : Aside0 (e = i + n) := ⟨by
            have := hq.out
            rw [hd, wn_cons_f _ _ hpt] at this
            omega⟩
          go_wp2_with (go_at_call 76; refine (part_any _ _).mono ?_; rintro e2 w2 ⟨rfl, rfl⟩)
          go_meet
          exact ⟨by rw [← hq2.out], rfl⟩
      · have i1 : ¬ (e : Int) < (src.size : Int) := by omega
        have hq2 : Aside0 (e = i + n) := ⟨by
          have := hq.out
          rw [List.drop_of_length_le (i := e) (by rw [sz_toList]; omega)] at this
          exact this⟩
        go_wp2_with fail
        go_meet
        exact ⟨by rw [← hq2.out], rfl⟩
  case rest =>
    obtain ⟨rfl, rfl⟩ := hcut
    have hwl := wn_le (src.data.toList.drop i)
    rw [List.length_drop, sz_toList] at hwl
    have hd : src.data.toList.drop i = src[i] :: src.data.toList.drop (i + 1) := by
      rw [List.drop_eq_getElem_cons (by rw [sz_toList]; exact hi)]; rfl
    have hw1 : 1 ≤ wn (src.data.toList.drop i) := by rw [hd, wn_cons_t _ _ hp]; omega
    rw [hn] at hwl hw1
    have j0 : (0 : Int) ≤ (i : Int) := by omega
    have j1 : (i : Int) ≤ ((i + n : Nat) : Int) := by omega
    have j2 : ((i + n : Nat) : Int) ≤ (src.size : Int) := by omega
    have hts : (src.extract i (i + n)).size = n := by rw [ByteArray.size_extract]; omega
    have ht0 : Aside0 ((src.extract i (i + n)).data.toList.head? = some src[i]) := ⟨by
      rw [Lib.extract_data, hd]
      rw [show i + n - i = n by omega]
      obtain ⟨m, rfl⟩ : ∃ m, n = m + 1 := ⟨n - 1, by omega⟩
      rfl⟩
    go_wp2_with fail
    go_quiet (fail)
    have hS2 := Aside0.mk (sc_drewN hS.out nq)
    have hB2 := below_drewN' (Below.refl B wc) nq
    have hE2 := Aside0.mk (envB hE'.out (below_drewN' (Below.refl wc.heap.size wc) nq))
    have hz2 : (wc.drewN nq).heap.size = wc.heap.size := rfl
    revert hS2 hB2 hE2 hz2
    generalize wc.drewN nq = W
    intro hS2 hB2 hE2 hz2
    obtain ⟨_, hBw2, v2, hb2, hR2⟩ := hS2.out
    obtain ⟨A2, d2, rfl⟩ := Kd.R_slice hR2
    have k2 : W.cell? ⟨g, 2, none⟩ = some (.int .i64 ln) := blk_cell hb2 2
    clear hS hR hb c0 c1 c2 hE'
    revert hts ht0
    generalize hxt0 : src.extract i (i + n) = t
    intro hts ht0
    have hxt := Aside0.mk hxt0
    clear hxt0
    have htp : 0 < t.size := by omega
    have htl : t.data.toList = t[0] :: t.data.toList.drop 1 := by
      have := List.drop_eq_getElem_cons (l := t.data.toList) (i := 0) (by rw [sz_toList]; omega)
      exact this
    have t0 : (0 : Int) < (t.size : Int) := by omega
    obtain ⟨wo, rfl⟩ : ∃ wo : World, wo = wc := ⟨_, rfl⟩
    go_upto_region 6 with fail
    go_cut [53] (fun v53 wx => v53 = .bool (digI (t[0].toNat : Int)) ∧ wx = W.alloc (.cells #[.int .i64 0, .string t, .int .i64 0, .int .i64 ln] 43))
    case first =>
      cases e1 : decide ((48 : Int) ≤ (t[0].toNat : Int)) with
      | true =>
        cases e2 : decide ((t[0].toNat : Int) ≤ 57) with
        | true =>
          go_wp2_with fail
          go_meet
          exact ⟨by unfold digI; rw [e1, e2]; rfl, rfl⟩
        | false =>
          go_wp2_with fail
          go_meet
          exact ⟨by unfold digI; rw [e1, e2]; rfl, rfl⟩
      | false =>
        go_wp2_with fail
        go_meet
        exact ⟨by unfold digI; rw [e1]; rfl, rfl⟩
    case rest =>
      obtain ⟨rfl, rfl⟩ := hcut
      have hB3 : Below wo.heap.size W (W.alloc (.cells #[.int .i64 0, .string t, .int .i64 0, .int .i64 ln] 43)) := (Below.refl _ W).alloc (Nat.le_of_eq hz2.symm) _
      have hE3 := envB hE2.out ((Below.refl W.heap.size W).alloc (Nat.le_refl _) (.cells #[.int .i64 0, .string t, .int .i64 0, .int .i64 ln] 43))
      have hb3 : (W.alloc (.cells #[.int .i64 0, .string t, .int .i64 0, .int .i64 ln] 43)).heap[wo.heap.size]? = some (.cells #[.int .i64 0, .string t, .int .i64 0, .int .i64 ln] 43 (0, 0)) := by
        rw [← hz2]
        show (W.heap.push (.cells #[.int .i64 0, .string t, .int .i64 0, .int .i64 ln] 43 (0, 0)))[W.heap.size]? = _
        exact Array.getElem?_push_size
      have hz3 : wo.heap.size < (W.alloc (.cells #[.int .i64 0, .string t, .int .i64 0, .int .i64 ln] 43)).heap.size := by rw [← hz2]; show _ < (W.heap.push _).size; rw [Array.size_push]; exact Nat.lt_succ_self _
      revert hB3 hE3 hb3 hz3
      generalize (W.alloc (.cells #[.int .i64 0, .string t, .int .i64 0, .int .i64 ln] 43)) = W1
      intro hB3 hE3 hb3 hz3
      have hE3 := Aside0.mk hE3
      have hz0 : W.heap.size ≤ wo.heap.size := Nat.le_of_eq hz2
      have hz1 : wo.heap.size ≤ W.heap.size := Nat.le_of_eq hz2.symm
      have hbox0 := Nat.lt_of_lt_of_le hz3 (Nat.le_refl _)
      have hts1 : t.size ≤ 1000000 := by omega
      have HTL := Aside0.mk htl
      have hhd : Aside0 (hdI t.data.toList = (t[0].toNat : Int)) := ⟨by rw [htl]; rfl⟩
      clear hb2 hR2 k2 hz2 hts htl
      go_upto_if 53 with fail
      go_cut [] (fun wx => ∃ K m : Int, Aside0 (wdL t.data.toList = .ok (K, m)) ∧ wx.heap[wo.heap.size]? = some (.cells #[.int .i64 K, .string t, .int .i64 m, .int .i64 ln] 43 (0, 0)) ∧ Below wo.heap.size W wx)
      case first =>
        have fin : ∀ (b : Int) (wx : World), wdL t.data.toList = .error b → Below wo.heap.size W wx → (WordDid B g src i n ln ts (.returned (.int .i64 b)) wx ∧ Below B wo wx) := fun b wx hw hbw => by
          refine ⟨?_, hB2.trans (hbw.mono (by omega))⟩
          unfold WordDid
          rw [hxt.out, hw]
          exact ⟨rfl, sc_below hS2.out (hbw.mono hz0)⟩
        have fin := Aside0.mk fin
        cases hdg : digI (t[0].toNat : Int) with
        | true =>
          have HDG := Aside0.mk hdg
          clear hdg
          by_cases htr : Lib.trimS t.data.toList digs.data.toList = []
          · have HTR := Aside0.mk htr
            clear htr
            by_cases hlz : (1 < t.size ∧ t[0] = 48)
            · obtain ⟨h1t, h48⟩ := hlz
              have d1 : decide ((1 : Int) < (t.size : Int)) = true := decide_eq_true (by omega)
              have d1' : (1 : Int) < (t.size : Int) := by omega
              have e48 : ((t[0].toNat : Int) == 48) = true := by rw [h48]; rfl
              have hwd : Aside0 (wdL t.data.toList = .error 11) := ⟨by
                unfold wdL
                rw [hhd.out, if_pos HDG.out, if_pos (.inr ⟨by rw [sz_toList]; exact h1t, by rw [HTL.out, h48]; rfl⟩)]⟩
              clear h48
              go_wp2_with fail
              refine (trim_empty t hts1 HTR.out _).mono ?_
              rintro e w2 ⟨rfl, hb5⟩
              go_wp2_with fail
              go_ret
              exact fin.out 11 _ hwd.out (hB3.trans (hb5.mono (by omega)))
            · have hwq : Aside0 (wdL t.data.toList = if (intOf64 t.data.toList).2 = true then .ok (1, (intOf64 t.data.toList).1) else .error 3) := ⟨by
                unfold wdL
                rw [hhd.out, if_pos HDG.out, if_neg (by
                  rintro (h | ⟨h, h'⟩)
                  · exact h HTR.out
                  · rw [HTL.out] at h'
                    exact hlz ⟨by rw [← sz_toList]; exact h, Option.some.inj h'⟩)]⟩
              have hor : ((1 : Int) < (t.size : Int) → ((t[0].toNat : Int) == 48) = false) := fun h => beq_eq_false_iff_ne.2 (u8n (fun h' => hlz ⟨by omega, h'⟩) (by decide))
              clear hlz
              rcases hio : intOf64 t.data.toList with ⟨m, ok⟩
              have hint : Aside0 (text_Int.f t = some (m, ok)) := ⟨by unfold text_Int.f; rw [if_pos hts1, hio]⟩
              have hio := Aside0.mk hio
              by_cases h1t : (1 : Int) < (t.size : Int)
              · have d1 : decide ((1 : Int) < (t.size : Int)) = true := decide_eq_true h1t
                have e48 := hor h1t
                clear hor
                go_wp2_with fail
                refine (trim_empty t hts1 HTR.out _).mono ?_
                rintro e w2 ⟨rfl, hb5⟩
                go_wp2_with fail
                refine (text_Int.calls t m ok _ (envB hE3.out hb5) hint.out).mono ?_
                rintro e w3 ⟨rfl, hb6⟩
                have hb7 : w3.heap[wo.heap.size]? = some (.cells #[.int .i64 0, .string t, .int .i64 0, .int .i64 ln] 43 (0, 0)) := (hb6.block _ (Nat.lt_of_lt_of_le hz3 hb5.size)).trans ((hb5.block _ hz3).trans hb3)
                have b7 : Below wo.heap.size W w3 := (hB3.trans (hb5.mono (by omega))).trans (hb6.mono (Nat.le_trans (Nat.le_of_lt hz3) hb5.size))
                have g0 : w3.cell? ⟨wo.heap.size, 0, none⟩ = some (.int .i64 0) := blk_cell hb7 0
                have g2 : w3.cell? ⟨wo.heap.size, 2, none⟩ = some (.int .i64 0) := blk_cell hb7 2
                have f0 := blk_frozen hb7 0
                have f2 := blk_frozen hb7 2
                cases ok with
                | false =>
                  go_wp2_with fail
                  go_ret
                  exact fin.out 3 _ (by rw [hwq.out, hio.out]; rfl) b7
                | true =>
                  go_wp2_with fail
                  go_meet
                  exact ⟨1, m, ⟨by rw [hwq.out, hio.out]; rfl⟩, blk_put (blk_put hb7 0 _ rfl) 2 _ rfl, (b7.setCell (p := ⟨wo.heap.size, 0, none⟩) (Nat.le_refl _) _).setCell (p := ⟨wo.heap.size, 2, none⟩) (Nat.le_refl _) _⟩
              · have d1 : decide ((1 : Int) < (t.size : Int)) = false := decide_eq_false h1t
                clear hor
                go_wp2_with fail
                refine (trim_empty t hts1 HTR.out _).mono ?_
                rintro e w2 ⟨rfl, hb5⟩
                go_wp2_with fail
                refine (text_Int.calls t m ok _ (envB hE3.out hb5) hint.out).mono ?_
                rintro e w3 ⟨rfl, hb6⟩
                have hb7 : w3.heap[wo.heap.size]? = some (.cells #[.int .i64 0, .string t, .int .i64 0, .int .i64 ln] 43 (0, 0)) := (hb6.block _ (Nat.lt_of_lt_of_le hz3 hb5.size)).trans ((hb5.block _ hz3).trans hb3)
                have b7 : Below wo.heap.size W w3 := (hB3.trans (hb5.mono (by omega))).trans (hb6.mono (Nat.le_trans (Nat.le_of_lt hz3) hb5.size))
                have g0 : w3.cell? ⟨wo.heap.size, 0, none⟩ = some (.int .i64 0) := blk_cell hb7 0
                have g2 : w3.cell? ⟨wo.heap.size, 2, none⟩ = some (.int .i64 0) := blk_cell hb7 2
                have f0 := blk_frozen hb7 0
                have f2 := blk_frozen hb7 2
                cases ok with
                | false =>
                  go_wp2_with fail
                  go_ret
                  exact fin.out 3 _ (by rw [hwq.out, hio.out]; rfl) b7
                | true =>
                  go_wp2_with fail
                  go_meet
                  exact ⟨1, m, ⟨by rw [hwq.out, hio.out]; rfl⟩, blk_put (blk_put hb7 0 _ rfl) 2 _ rfl, (b7.setCell (p := ⟨wo.heap.size, 0, none⟩) (Nat.le_refl _) _).setCell (p := ⟨wo.heap.size, 2, none⟩) (Nat.le_refl _) _⟩
          · obtain ⟨r, hr⟩ : ∃ r : ByteArray, r = ⟨(Lib.trimS t.data.toList digs.data.toList).toArray⟩ := ⟨_, rfl⟩
            have hrl : r.toList = Lib.trimS t.data.toList digs.data.toList := by rw [hr, Lib.toList_data]
            have q2 : r.toList.isEmpty = false := by rw [hrl, Bool.eq_false_iff]; intro hh; exact htr (List.isEmpty_iff.1 hh)
            have q3 : (r.toList == []) = false := by rw [hrl, beq_eq_false_iff_ne]; exact htr
            have hwd : Aside0 (wdL t.data.toList = .error 11) := ⟨by
              unfold wdL
              rw [hhd.out, if_pos HDG.out, if_pos (.inl htr)]⟩
            have HR' := Aside0.mk hr
            clear hr hrl htr
            go_wp2_with fail
            refine (trim_some t hts1 r HR'.out _).mono ?_
            rintro e w2 ⟨rfl, hb5⟩
            go_wp2_with fail
            go_ret
            exact fin.out 11 _ hwd.out (hB3.trans (hb5.mono (by omega)))
        | false =>
          have HDG := Aside0.mk hdg
          clear hdg
          cases hnm : nameOk t.data.toList with
          | true =>
            have hwd : Aside0 (wdL t.data.toList = .ok (0, 0)) := ⟨by
              unfold wdL
              rw [hhd.out, HDG.out, if_neg (by decide), if_pos hnm]⟩
            have HNM := Aside0.mk hnm
            clear hnm
            go_wp2_with fail
            refine (name_b t _ HNM.out _).mono ?_
            rintro e w2 ⟨rfl, hb5⟩
            go_wp2_with fail
            go_meet
            exact ⟨0, 0, hwd, (hb5.block _ hz3).trans hb3, hB3.trans (hb5.mono (by omega))⟩
          | false =>
            have hwd : Aside0 (wdL t.data.toList = .error 11) := ⟨by
              unfold wdL
              rw [hhd.out, HDG.out, if_neg (by decide), if_neg (by rw [hnm]; decide)]⟩
            have HNM := Aside0.mk hnm
            clear hnm
            go_wp2_with fail
            refine (name_b t _ HNM.out _).mono ?_
            rintro e w2 ⟨rfl, hb5⟩
            go_wp2_with fail
            go_ret
            exact fin.out 11 _ hwd.out (hB3.trans (hb5.mono (by omega)))
      case rest =>
        obtain ⟨K, m, hwd, hbx, hBx⟩ := hcut
        have hSx := sc_below hS2.out (hBx.mono hz0)
        have hB5 := hB2.trans (hBx.mono (by omega))
        obtain ⟨_, hBw4, v4, hb4, hR4⟩ := hSx
        obtain ⟨A4, d4, rfl⟩ := Kd.R_slice hR4
        have k1 : wc.cell? ⟨g, 1, none⟩ = some (.int .i64 i) := blk_cell hb4 1
        have k3 : wc.cell? ⟨g, 3, none⟩ = some (.slice A4 ts.length d4) := blk_cell hb4 3
        have x0 : wc.cell? ⟨wo.heap.size, 0, none⟩ = some (.int .i64 K) := blk_cell hbx 0
        have x1 : wc.cell? ⟨wo.heap.size, 1, none⟩ = some (.string t) := blk_cell hbx 1
        have x2 : wc.cell? ⟨wo.heap.size, 2, none⟩ = some (.int .i64 m) := blk_cell hbx 2
        have x3 : wc.cell? ⟨wo.heap.size, 3, none⟩ = some (.int .i64 ln) := blk_cell hbx 3
        have hlt4 : g < wc.heap.size := blk_lt hb4
        have hfin : Aside0 (∀ e wx, e = .returned (.int .i64 0) → Sc B g src (i + n) ln (ts ++ [(⟨K, t, m, ln⟩ : S43)]) wx → WordDid B g src i n ln ts e wx) := ⟨by
          intro e wx he hsx
          unfold WordDid
          rw [hxt.out, hwd.out]
          exact ⟨he, hsx⟩⟩
        clear hb3 hBx hB3
        go_wp2_with fail
        go_region_law (refine Kd.R_append_step k43 (w0 := wc) (W := wc.drew) B (by rfl) (.tmp 85) (.tmp 87) 38 43 (.agg #[(.int .i64 0), (.string ⟨#[]⟩), (.int .i64 0), (.int .i64 0)]) 40 rfl Tryd.underlying38 info43 rfl (by decide) (by omega) (.slice A4 ts.length d4) ts (⟨K, t, m, ln⟩ : S43) [.int .i64 K, .string t, .int .i64 m, .int .i64 ln] (fun k => k ≠ g) (fun _ => False) rfl rfl (k43_mkM _ _ _ (⟨K, t, m, ln⟩ : S43)) (fun _ hk => hk.elim) (fun k hk => by have : wc.drew.heap.size = wc.heap.size := rfl; omega) (Kd.R_drew hR4) (below_drew1 (Below.refl _ _)) hBw4 (by omega) ?_; intro v1 w1 r1 b1 g1 s1; obtain ⟨A1, d1, rfl⟩ := Kd.R_slice r1; have hb1 := blk_grown (w := wc.drew) (g := g) (o := .cells #[.string src, .int .i64 i, .int .i64 ln, .slice A4 ts.length d4] 73 (0, 0)) hb4 g1 (fun e => hR4.1 g e.symm rfl); have e1 : w1.cell? ⟨g, 1, none⟩ = some (.int .i64 i) := blk_cell hb1 1; have e3 : w1.cell? ⟨g, 3, none⟩ = some (.slice A4 ts.length d4) := blk_cell hb1 3; have f31 := blk_frozen hb1 3; have f11 := blk_frozen hb1 1)
        all_goals go_wp2_with fail
        all_goals go_ret
        all_goals
          have r2 := r1
          rw [List.length_append, List.length_singleton] at r2
          exact ⟨hfin.out _ _ rfl (sc_at (sc_put hBg (by have := b1.size; omega) hb1 r2) (i + n)), ((hB5.trans b1).setCell (p := ⟨g, 3, none⟩) hBg _).setCell (p := ⟨g, 1, none⟩) hBg _⟩
end Go.Proofs.YtfefbnfmngdicaaDoor.PX

/- The scanner's method next, walked by hand: which method takes the token that begins here. -/
namespace Go.Proofs.YtfefbnfmngdicaaDoor.PX
set_option linter.unusedVariables false
set_option linter.unusedSimpArgs false
open Go.RowKit Go.Proofs.YtfefbnfmngdicaaDoorW.PrintWords Go.Proofs.YtfefbnfmngdicaaDoorW.PrintLast Go.Proofs.YtfefbnfmngdicaaDoorW.PrintMore

/-- Which method takes the token that begins at a place. -/
def nxK (src : ByteArray) (i : Nat) : Nat :=
  if h : i < src.size then (if ptI (src[i].toNat : Int) = true then 77 else if src[i] = 34 then 78 else if src[i] = 10 then 79 else 80) else 75
def fnV (g K : Nat) : Value := .func (Fn.func K) #[.pointer (some ⟨g, 0, none⟩)] #[]

theorem next_end (B g : Nat) (src : ByteArray) (i : Nat) (ln : Int) (ts : List S43) (w : World) (h : Sc B g src i ln ts w) (hi : i = src.size) (hs : src.size ≤ 100000) :
    Calls Tryd.prog 59 #[.pointer (some ⟨g, 0, none⟩)] w fun e w' => e = .returned (fnV g 75) ∧ ∃ n, w' = w.drewN n := by
  have hmf : ∀ (fn : Fn) (first cap : Array Value) (w : World), (Instr.makeFunc fn first cap).run Tryd.prog w = .ok (.func fn first cap) w := fun _ _ _ _ => rfl
  obtain ⟨hBg, hBw, v, hb, hR⟩ := h
  have c0 : w.cell? ⟨g, 0, none⟩ = some (.string src) := blk_cell hb 0
  have c1 : w.cell? ⟨g, 1, none⟩ = some (.int .i64 i) := blk_cell hb 1
  have e1 : ((i : Int) == (src.size : Int)) = true := by rw [beq_iff_eq]; omega
  clear hi
  go_enter Tryd.func59, Tryd.ntmps59
  go_wp2_with fail
  go_quiet (fail)
  go_wp2_with fail
  go_ret
  exact ⟨rfl, _, rfl⟩

theorem next_at (B g : Nat) (src : ByteArray) (i : Nat) (ln : Int) (ts : List S43) (w : World) (h : Sc B g src i ln ts w) (hi : i < src.size) (hs : src.size ≤ 100000) :
    Calls Tryd.prog 59 #[.pointer (some ⟨g, 0, none⟩)] w fun e w' => e = .returned (fnV g (nxK src i)) ∧ ∃ n, w' = w.drewN n := by
  have hmf : ∀ (fn : Fn) (first cap : Array Value) (w : World), (Instr.makeFunc fn first cap).run Tryd.prog w = .ok (.func fn first cap) w := fun _ _ _ _ => rfl
  obtain ⟨hBg, hBw, v, hb, hR⟩ := h
  have c0 : w.cell? ⟨g, 0, none⟩ = some (.string src) := blk_cell hb 0
  have c1 : w.cell? ⟨g, 1, none⟩ = some (.int .i64 i) := blk_cell hb 1
  have e1 : ((i : Int) == (src.size : Int)) = false := by rw [beq_eq_false_iff_ne]; omega
  have i0 : (0 : Int) ≤ (i : Int) := by omega
  have i1 : (i : Int) < (src.size : Int) := by omega
  unfold nxK
  rw [dif_pos hi]
  cases hp : ptI (src[i].toNat : Int) with
  | true =>
    rw [if_pos rfl]
    go_enter Tryd.func59, Tryd.ntmps59
    go_wp2_with fail
    go_quiet (fail)
    go_wp2_with fail
    go_quiet (fail)
    go_wp2_with (go_at_call 76; refine (part_any _ _).mono ?_; rintro e2 w2 ⟨rfl, rfl⟩)
    go_ret
    exact ⟨rfl, _, rfl⟩
  | false =>
    rw [if_neg (by decide)]
    by_cases h34 : src[i] = 34
    · have e34 : ((src[i].toNat : Int) == 34) = true := by rw [h34]; rfl
      rw [if_pos h34]
      clear h34
      go_enter Tryd.func59, Tryd.ntmps59
      go_wp2_with fail
      go_quiet (fail)
      go_wp2_with fail
      go_quiet (fail)
      go_wp2_with (go_at_call 76; refine (part_any _ _).mono ?_; rintro e2 w2 ⟨rfl, rfl⟩)
      go_ret
      exact ⟨rfl, _, rfl⟩
    · have e34 : ((src[i].toNat : Int) == 34) = false := beq_eq_false_iff_ne.2 (u8n h34 (by decide))
      rw [if_neg h34]
      clear h34
      by_cases h10 : src[i] = 10
      · have e10 : ((src[i].toNat : Int) == 10) = true := by rw [h10]; rfl
        rw [if_pos h10]
        clear h10
        go_enter Tryd.func59, Tryd.ntmps59
        go_wp2_with fail
        go_quiet (fail)
        go_wp2_with fail
        go_quiet (fail)
        go_wp2_with (go_at_call 76; refine (part_any _ _).mono ?_; rintro e2 w2 ⟨rfl, rfl⟩)
        go_ret
        exact ⟨rfl, _, rfl⟩
      · have e10 : ((src[i].toNat : Int) == 10) = false := beq_eq_false_iff_ne.2 (u8n h10 (by decide))
        rw [if_neg h10]
        clear h10
        go_enter Tryd.func59, Tryd.ntmps59
        go_wp2_with fail
        go_quiet (fail)
        go_wp2_with fail
        go_quiet (fail)
        go_wp2_with (go_at_call 76; refine (part_any _ _).mono ?_; rintro e2 w2 ⟨rfl, rfl⟩)
        go_ret
        exact ⟨rfl, _, rfl⟩
end Go.Proofs.YtfefbnfmngdicaaDoor.PX

/- lex.Lex, walked by hand: the tokens of a source. -/
namespace Go.Proofs.YtfefbnfmngdicaaDoor.PX
set_option linter.unusedVariables false
set_option linter.unusedSimpArgs false
open Go.RowKit Go.Proofs.YtfefbnfmngdicaaDoorW.PrintWords Go.Proofs.YtfefbnfmngdicaaDoorW.PrintLast Go.Proofs.YtfefbnfmngdicaaDoorW.PrintMore

theorem bs_eq (x : ByteArray) : bs x.data.toList = x := rfl
theorem ext_l (src : ByteArray) (i j : Nat) : (src.extract i j).data.toList = (src.data.toList.drop i).take (j - i) := Lib.extract_data src i j
theorem ext_bs (src : ByteArray) (i n : Nat) : src.extract i (i + n) = bs ((src.data.toList.drop i).take n) := by
  rw [← bs_eq (src.extract i (i + n)), ext_l, show i + n - i = n by omega]
theorem qt_eq (src : ByteArray) (i : Nat) (hi : i < src.size) : qtR src i = (qtL (src.data.toList.drop i)).map fun p => (i + p.2, bs p.1) := by
  have hl : (src.data.toList.drop i).length = src.size - i := by rw [List.length_drop, sz_toList]
  have hd : (src.data.toList.drop i).drop 1 = src.data.toList.drop (i + 1) := by rw [List.drop_drop]
  unfold qtR qtL
  rw [hd, hl]
  generalize hq : qz (src.data.toList.drop (i + 1)) = q
  by_cases hc : i + 1 + q < src.size
  · rw [if_pos hc, if_pos (show q + 1 < src.size - i by omega)]
    have hx : src.extract i (i + 1 + q + 1) = bs ((src.data.toList.drop i).take (q + 2)) := by rw [show i + 1 + q + 1 = i + (q + 2) by omega, ext_bs]
    have hxl : (src.extract i (i + 1 + q + 1)).data.toList = (src.data.toList.drop i).take (q + 2) := by rw [hx]; rfl
    have hm : mid (src.extract i (i + 1 + q + 1)) = (src.data.toList.drop (i + 1)).take q := by
      unfold mid
      rw [hxl, ByteArray.size_extract, List.drop_take, hd, List.take_take]
      congr 1
      omega
    have hu : unqR (src.extract i (i + 1 + q + 1)) = if quo (unq ((src.data.toList.drop (i + 1)).take q)) = (src.data.toList.drop i).take (q + 2) then (bs (unq ((src.data.toList.drop (i + 1)).take q)), true) else (⟨#[]⟩, false) := by
      unfold unqR
      rw [hm, hxl]
      rfl
    rw [hu]
    have hsz : (bs (unq ((src.data.toList.drop (i + 1)).take q))).size = (unq ((src.data.toList.drop (i + 1)).take q)).length := by unfold bs; rw [ByteArray.size, List.size_toArray]
    by_cases hq2 : quo (unq ((src.data.toList.drop (i + 1)).take q)) = (src.data.toList.drop i).take (q + 2)
    · rw [if_pos hq2]
      by_cases h200 : (unq ((src.data.toList.drop (i + 1)).take q)).length ≤ 200
      · rw [if_pos ⟨rfl, by rw [hsz]; exact h200⟩, if_pos ⟨hq2, h200⟩]
        show some (i + 1 + q + 1, _) = some (i + (q + 2), _)
        rw [show i + 1 + q + 1 = i + (q + 2) by omega]
      · rw [if_neg (by rintro ⟨_, h⟩; rw [hsz] at h; exact h200 h), if_neg (by rintro ⟨_, h⟩; exact h200 h)]
        rfl
    · rw [if_neg hq2, if_neg (by rintro ⟨h, _⟩; cases h), if_neg (by rintro ⟨h, _⟩; exact hq2 h)]
      rfl
  · rw [if_neg hc, if_neg (show ¬ q + 1 < src.size - i by omega)]
    rfl
theorem wdL_kind {l : List UInt8} {k m : Int} (h : wdL l = .ok (k, m)) : k = 0 ∨ k = 1 := by
  unfold wdL at h
  split at h
  · split at h
    · cases h
    · split at h
      · injection h with h; injection h with h _; exact .inr h.symm
      · cases h
  · split at h
    · injection h with h; injection h with h _; exact .inl h.symm
    · cases h
/-- What a method has done that takes the token at a place. -/
def Took (B g : Nat) (src : ByteArray) (i : Nat) (ln : Int) (ts : List S43) (e : Ending) (w' : World) : Prop :=
  match tokF (src.data.toList.drop i) with
  | .error b => e = .returned (.int .i64 b) ∧ Sc B g src i ln ts w'
  | .ok (kd, t, m, n) => e = .returned (.int .i64 0) ∧ Sc B g src (i + n) (if kd = 4 then ln + 1 else ln) (ts ++ [(⟨kd, bs t, m, ln⟩ : S43)]) w'
theorem take_any (B g : Nat) (src : ByteArray) (i : Nat) (ln : Int) (ts : List S43) (w : World) (h : Sc B g src i ln ts w) (hE : Env w) (hi : i < src.size) (hs : src.size ≤ 100000) (hl : ts.length ≤ 1000000) (hln : 0 ≤ ln ∧ ln ≤ 1000000) (K : Nat) (hK : nxK src i = K) :
    Calls Tryd.prog K #[.pointer (some ⟨g, 0, none⟩)] w fun e w' => Took B g src i ln ts e w' ∧ Below B w w' := by
  have hd : src.data.toList.drop i = src[i] :: src.data.toList.drop (i + 1) := by
    rw [List.drop_eq_getElem_cons (by rw [sz_toList]; exact hi)]; rfl
  rw [← hK]
  unfold nxK
  rw [dif_pos hi]
  by_cases hp : ptI (src[i].toNat : Int) = true
  · rw [if_pos hp]
    refine (word_any B g src i ln ts w h hE hi hp hs hl _ rfl).mono ?_
    rintro e w' ⟨hw, hb⟩
    refine ⟨?_, hb⟩
    have hx := ext_bs src i (wn (src.data.toList.drop i))
    have hxl : (src.extract i (i + wn (src.data.toList.drop i))).data.toList = (src.data.toList.drop i).take (wn (src.data.toList.drop i)) := by rw [hx]; rfl
    unfold WordDid at hw
    rw [hxl, hx] at hw
    unfold Took
    have ht : tokF (src.data.toList.drop i) = match wdL ((src.data.toList.drop i).take (wn (src.data.toList.drop i))) with
       | .error e => .error e
       | .ok (k, m) => .ok (k, (src.data.toList.drop i).take (wn (src.data.toList.drop i)), m, wn (src.data.toList.drop i)) := by
      conv => lhs; rw [hd]
      unfold tokF
      simp only
      rw [if_pos hp, ← hd]
      all_goals rfl
    rw [ht]
    rcases hwd : wdL ((src.data.toList.drop i).take (wn (src.data.toList.drop i))) with b | ⟨k, m⟩
    · rw [hwd] at hw
      exact hw
    · rw [hwd] at hw
      simp only at hw ⊢
      rw [if_neg (by rcases wdL_kind hwd with h | h <;> omega)]
      exact hw
  · rw [if_neg hp]
    by_cases h34 : src[i] = 34
    · rw [if_pos h34]
      refine (quoted_any B g src i ln ts w h hi hs hl).mono ?_
      rintro e w' ⟨hw, hb⟩
      refine ⟨?_, hb⟩
      have ht : tokF (src.data.toList.drop i) = match qtL (src.data.toList.drop i) with
         | none => .error 11
         | some (t, n) => .ok (2, t, 0, n) := by
        conv => lhs; rw [hd]
        unfold tokF
        simp only
        rw [if_neg hp, if_pos h34, ← hd]
        all_goals rfl
      unfold Took
      rw [ht]
      rw [qt_eq src i hi] at hw
      rcases hq : qtL (src.data.toList.drop i) with _ | ⟨t, n⟩
      · rw [hq] at hw
        exact hw
      · rw [hq] at hw
        exact hw
    · rw [if_neg h34]
      by_cases h10 : src[i] = 10
      · rw [if_pos h10]
        refine (feed_any B g src i ln ts w h hl (by omega) hln).mono ?_
        rintro e w' ⟨rfl, hS, hb⟩
        refine ⟨?_, hb⟩
        have ht : tokF (src.data.toList.drop i) = .ok (4, [], 0, 1) := by
          conv => lhs; rw [hd]
          unfold tokF
          simp only
          rw [if_neg hp, if_neg h34, if_pos h10]
        unfold Took
        rw [ht]
        exact ⟨rfl, hS⟩
      · rw [if_neg h10]
        refine (operator_any B g src i ln ts w h hi hs hl).mono ?_
        rintro e w' ⟨hw, hb⟩
        refine ⟨?_, hb⟩
        have ht : tokF (src.data.toList.drop i) = match opF opl (src.data.toList.drop i) with
           | none => .error 11
           | some o => .ok (3, o, 0, o.length) := by
          conv => lhs; rw [hd]
          unfold tokF
          simp only
          rw [if_neg hp, if_neg h34, if_neg h10, ← hd]
          all_goals rfl
        unfold Took
        rw [ht]
        unfold opR at hw
        rcases hq : opF opl (src.data.toList.drop i) with _ | o
        · rw [hq] at hw
          exact hw
        · rw [hq] at hw
          exact hw
theorem next_K (B g : Nat) (src : ByteArray) (i : Nat) (ln : Int) (ts : List S43) (w : World) (h : Sc B g src i ln ts w) (hi : i < src.size) (hs : src.size ≤ 100000) (K : Nat) (hK : nxK src i = K) :
    Calls Tryd.prog 59 #[.pointer (some ⟨g, 0, none⟩)] w fun e w' => e = .returned (.func (Fn.func K) #[.pointer (some ⟨g, 0, none⟩)] #[]) ∧ ∃ n, w' = w.drewN n := by
  rw [← hK]
  exact next_at B g src i ln ts w h hi hs
theorem nxK_cases (src : ByteArray) (i : Nat) (hi : i < src.size) : nxK src i = 77 ∨ nxK src i = 78 ∨ nxK src i = 79 ∨ nxK src i = 80 := by
  unfold nxK
  rw [dif_pos hi]
  split
  · exact .inl rfl
  · split
    · exact .inr (.inl rfl)
    · split
      · exact .inr (.inr (.inl rfl))
      · exact .inr (.inr (.inr rfl))
theorem pre_len : ∀ (o l : List UInt8), o.isPrefixOf l = true → o.length ≤ l.length
  | [], _, _ => Nat.zero_le _
  | _ :: _, [], h => by cases h
  | a :: o, b :: l, h => by
    have h' : (a == b && o.isPrefixOf l) = true := h
    rw [Bool.and_eq_true] at h'
    have := pre_len o l h'.2
    rw [List.length_cons, List.length_cons]; omega
/-- A token lies within its list; its kind is none of the end's. -/
theorem tokF_in {l : List UInt8} {kd : Int} {t : List UInt8} {m : Int} {n : Nat} (h : tokF l = .ok (kd, t, m, n)) : n ≤ l.length ∧ 0 ≤ kd ∧ kd ≤ 4 := by
  match l, h with
  | [], h => cases h
  | c :: r, h =>
    unfold tokF at h
    simp only at h
    split at h
    · split at h
      · cases h
      · rename_i k m' hw
        injection h with h
        injection h with h1 h
        injection h with _ h
        injection h with _ h
        have := wn_le (c :: r)
        rcases wdL_kind hw with h2 | h2 <;> omega
    · split at h
      · split at h
        · cases h
        · rename_i hq
          injection h with h
          injection h with h1 h
          injection h with _ h
          injection h with _ h
          unfold qtL at hq
          split at hq
          · split at hq
            · injection hq with hq
              injection hq with _ hq
              omega
            · cases hq
          · cases hq
      · split at h
        · injection h with h
          injection h with h1 h
          injection h with _ h
          injection h with _ h
          rw [List.length_cons]
          omega
        · split at h
          · cases h
          · rename_i ho
            injection h with h
            injection h with h1 h
            injection h with _ h
            injection h with _ h
            have := pre_len _ _ (opF_mem _ _ _ ho).2
            omega
end Go.Proofs.YtfefbnfmngdicaaDoor.PX
