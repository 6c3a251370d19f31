/- The scanner's method quoted, walked by hand: it takes a text. -/
import Derived.Test.YtfefbnfmngdicaaDoorX2
import Derived.Test.YtfefbnfmngdicaaDoorE2
namespace Go.Proofs.YtfefbnfmngdicaaDoor.PX
set_option linter.unusedVariables false
set_option linter.unusedSimpArgs false
open Go.RowKit Go.Proofs.YtfefbnfmngdicaaDoorW.PrintWords Go.Proofs.YtfefbnfmngdicaaDoorW.PrintLast Go.Proofs.YtfefbnfmngdicaaDoorW.PrintMore

/-- How many bytes there are ahead of the closing quote; more than there are bytes, perhaps, if there is none. -/
def qz : List UInt8 → Nat
  | [] => 0
  | [c] => if c = 34 then 0 else if c = 92 then 2 else 1
  | c :: d :: r => if c = 34 then 0 else if c = 92 then qz r + 2 else qz (d :: r) + 1
theorem qz_stop (l : List UInt8) (h : l = [] ∨ l.head? = some 34) : qz l = 0 := by
  match l, h with
  | [], _ => rfl
  | [c], h =>
    have : c = 34 := by simpa using h
    rw [qz, if_pos this]
  | c :: d :: r, h =>
    have : c = 34 := by simpa using h
    rw [qz, if_pos this]
theorem qz_esc (r : List UInt8) : qz (92 :: r) = qz (r.drop 1) + 2 := by
  match r with
  | [] => rfl
  | d :: r => rfl
theorem qz_one (c : UInt8) (r : List UInt8) (h : c ≠ 34) (h2 : c ≠ 92) : qz (c :: r) = qz r + 1 := by
  match r with
  | [] =>
    show (if c = 34 then 0 else if c = 92 then 2 else 1) = 0 + 1
    rw [if_neg h, if_neg h2]
  | d :: r => rw [qz, if_neg h, if_neg h2]
theorem qz_le : ∀ (k : Nat) (l : List UInt8), l.length ≤ k → qz l ≤ l.length + 1
  | 0, l, h => by
    have : l = [] := List.eq_nil_of_length_eq_zero (by omega)
    subst this
    exact Nat.zero_le _
  | k + 1, [], _ => Nat.zero_le _
  | k + 1, c :: r, h => by
    rw [List.length_cons] at h ⊢
    by_cases h1 : c = 34
    · rw [qz_stop _ (.inr (by simp [h1]))]; omega
    · by_cases h2 : c = 92
      · subst h2
        cases r with
        | nil => rw [qz_esc]; simp [qz]
        | cons d r =>
          have := qz_le k r (by rw [List.length_cons] at h; omega)
          rw [qz_esc]
          simp only [List.drop_succ_cons, List.drop_zero, List.length_cons]
          omega
      · have := qz_le k r (by omega)
        rw [qz_one c r h1 h2]
        omega
/-- What quoted takes: the place behind it, and the text. -/
def qtR (src : ByteArray) (i : Nat) : Option (Nat × ByteArray) :=
  if i + 1 + qz (src.data.toList.drop (i + 1)) < src.size then
    (if (unqR (src.extract i (i + 1 + qz (src.data.toList.drop (i + 1)) + 1))).2 = true ∧ (unqR (src.extract i (i + 1 + qz (src.data.toList.drop (i + 1)) + 1))).1.size ≤ 200 then
      some (i + 1 + qz (src.data.toList.drop (i + 1)) + 1, (unqR (src.extract i (i + 1 + qz (src.data.toList.drop (i + 1)) + 1))).1) else none)
  else none
def TakenBy (B g : Nat) (src : ByteArray) (i : Nat) (ln : Int) (ts : List S43) (kind : Int) (bad : Int) (x : Option (Nat × ByteArray)) (e : Ending) (w' : World) : Prop :=
  match x with
  | none => e = .returned (.int .i64 bad) ∧ Sc B g src i ln ts w'
  | some (j, t) => e = .returned (.int .i64 0) ∧ Sc B g src j ln (ts ++ [(⟨kind, t, 0, ln⟩ : S43)]) w'
theorem sc_below {B g : Nat} {src : ByteArray} {i : Nat} {ln : Int} {ts : List S43} {w w1 : World} (h : Sc B g src i ln ts w) (hb : Below w.heap.size w w1) : Sc B g src i ln ts w1 := by
  obtain ⟨hBg, hBw, v, hb0, r⟩ := h
  exact ⟨hBg, Nat.le_trans hBw hb.size, v, (hb.block g (blk_lt hb0)).trans hb0, Kd.R_below r hb⟩

set_option maxHeartbeats 2000000 in
set_option maxRecDepth 100000 in
theorem quoted_any (B g : Nat) (src : ByteArray) (i : Nat) (ln : Int) (ts : List S43) (w : World) (h : Sc B g src i ln ts w) (hi : i < src.size) (hs : src.size ≤ 100000) (hl : ts.length ≤ 1000000) :
    Calls Tryd.prog 78 #[.pointer (some ⟨g, 0, none⟩)] w fun e w' => TakenBy B g src i ln ts 2 11 (qtR src i) e w' ∧ Below B w w' := by
  obtain ⟨hBg, hBw, v, hb, hR⟩ := h
  obtain ⟨A, c, rfl⟩ := Kd.R_slice hR
  have c0 : w.cell? ⟨g, 0, none⟩ = some (.string src) := blk_cell hb 0
  have c1 : w.cell? ⟨g, 1, none⟩ = some (.int .i64 i) := blk_cell hb 1
  have q1 : IntKind.i64.wrap ((i : Int) + 1) = ((i + 1 : Nat) : Int) := by rw [w64x (by omega) (by omega)]; omega
  go_enter Tryd.func78, Tryd.ntmps78
  go_wp2_with fail
  go_loopg [3] (src.size + 2 - (i + 1)) (fun n v3 wr => ∃ e : Nat, n = src.size + 2 - e ∧ v3 = .int .i64 e ∧ i + 1 ≤ e ∧ e ≤ src.size + 1 ∧ Aside0 (e + qz (src.data.toList.drop e) = i + 1 + qz (src.data.toList.drop (i + 1))) ∧ wr = w)
  case atStart => exact ⟨i + 1, rfl, rfl, Nat.le_refl _, by omega, ⟨rfl⟩, rfl⟩
  case round =>
    obtain ⟨e, rfl, rfl, hie, hes, hq, rfl⟩ := hrel
    by_cases hlt : e < src.size
    · have hd : src.data.toList.drop e = src[e] :: src.data.toList.drop (e + 1) := by
        rw [List.drop_eq_getElem_cons (by rw [sz_toList]; exact hlt)]; rfl
      have i0 : (0 : Int) ≤ (e : Int) := by omega
      have i1 : (e : Int) < (src.size : Int) := by omega
      have p1 : IntKind.i64.wrap ((e : Int) + 1) = ((e + 1 : Nat) : Int) := by rw [w64x (by omega) (by omega)]; omega
      have p2 : IntKind.i64.wrap (((e + 1 : Nat) : Int) + 1) = ((e + 2 : Nat) : Int) := by rw [w64x (by omega) (by omega)]; omega
      by_cases h34 : src[e] = 34
      · have e34 : ((src[e].toNat : Int) != 34) = false := by rw [h34]; rfl
        have e34' : ((src[e].toNat : Int) == 34) = true := by rw [h34]; rfl
        have i2 : ¬ (src.size : Int) ≤ (e : Int) := by omega
        have i3 : (0 : Int) ≤ (i : Int) := by omega
        have i4 : (i : Int) ≤ ((e + 1 : Nat) : Int) := by omega
        have i5 : ((e + 1 : Nat) : Int) ≤ (src.size : Int) := by omega
        have hE : i + 1 + qz (src.data.toList.drop (i + 1)) = e := by
          have := hq.out
          rw [qz_stop (src.data.toList.drop e) (.inr (by rw [hd, h34]; rfl))] at this
          omega
        have hxs : (src.extract i (e + 1)).size ≤ 1000000 := by rw [ByteArray.size_extract]; omega
        have hun : Aside0 (text_Unquote.f (src.extract i (e + 1)) = some ((unqR (src.extract i (e + 1))).1, (unqR (src.extract i (e + 1))).2)) := ⟨if_pos hxs⟩
        have hqt : qtR src i = if (unqR (src.extract i (e + 1))).2 = true ∧ (unqR (src.extract i (e + 1))).1.size ≤ 200 then some (e + 1, (unqR (src.extract i (e + 1))).1) else none := by
          unfold qtR
          rw [hE, if_pos hlt]
        have hqt' := Aside0.mk hqt
        clear hqt h34 hE hxs hd
        revert hun hqt'
        generalize (unqR (src.extract i (e + 1))).1 = t
        generalize (unqR (src.extract i (e + 1))).2 = ok
        intro hun hqt'
        go_wp2_with fail
        go_cut [4, 5] (fun v4 v5 wc => v4 = .string t ∧ v5 = .bool ok ∧ Aside0 (Sc B g src i ln ts wc) ∧ Below B wr wc)
        case first =>
          go_region_with (go_at_call 22; refine (text_Unquote.calls _ t ok _ hun.out).mono ?_; rintro e w' ⟨rfl, hbb⟩)
          all_goals go_wp2_with fail
          all_goals go_meet
          all_goals exact ⟨rfl, rfl, ⟨sc_below (w := wr.drew) ⟨hBg, hBw, _, hb, Kd.R_drew hR⟩ hbb⟩, below_then ((Below.refl B wr).drew) hBw hbb⟩
        case rest =>
          obtain ⟨rfl, rfl, hS2, hB2⟩ := hcut
          obtain ⟨_, hBw2, v2, hb2, hR2⟩ := hS2.out
          obtain ⟨A2, c2, rfl⟩ := Kd.R_slice hR2
          cases ok with
          | false =>
            have hqn : Aside0 (qtR src i = none) := ⟨by rw [hqt'.out, if_neg (by rintro ⟨x, _⟩; cases x)]⟩
            go_wp2_with fail
            go_ret
            rw [hqn.out]
            exact ⟨⟨rfl, hS2.out⟩, hB2⟩
          | true =>
            by_cases ht : t.size ≤ 200
            · have hqs : Aside0 (qtR src i = some (e + 1, t)) := ⟨by rw [hqt'.out, if_pos ⟨rfl, ht⟩]⟩
              have t1 : ¬ (200 : Int) < (t.size : Int) := by omega
              have t2 : decide ((200 : Int) < (t.size : Int)) = false := decide_eq_false t1
              have d2 : wc.cell? ⟨g, 2, none⟩ = some (.int .i64 ln) := blk_cell hb2 2
              have d3 : wc.cell? ⟨g, 3, none⟩ = some (.slice A2 ts.length c2) := blk_cell hb2 3
              have hlt2 : g < wc.heap.size := blk_lt hb2
              go_wp2_with fail
              go_region_law (refine Kd.R_append_step k43 (w0 := wc) (W := wc.drew) B (by rfl) (.tmp 72) (.tmp 79) 38 43 (.agg #[(.int .i64 0), (.string ⟨#[]⟩), (.int .i64 0), (.int .i64 0)]) 40 rfl Tryd.underlying38 info43 rfl (by decide) (by omega) (.slice A2 ts.length c2) ts (⟨2, t, 0, ln⟩ : S43) [.int .i64 2, .string t, .int .i64 0, .int .i64 ln] (fun k => k ≠ g) (fun _ => False) rfl rfl (k43_mkM _ _ _ (⟨2, t, 0, ln⟩ : S43)) (fun _ hk => hk.elim) (fun k hk => by have : wc.drew.heap.size = wc.heap.size := rfl; omega) (Kd.R_drew hR2) (below_drew1 (Below.refl _ _)) hBw2 (by omega) ?_; intro v1 w1 r1 b1 g1 s1; obtain ⟨A1, d1, rfl⟩ := Kd.R_slice r1; have hb1 := blk_grown (w := wc.drew) (g := g) (o := .cells #[.string src, .int .i64 i, .int .i64 ln, .slice A2 ts.length c2] 73 (0, 0)) hb2 g1 (fun e => hR2.1 g e.symm rfl); have e1 : w1.cell? ⟨g, 1, none⟩ = some (.int .i64 i) := blk_cell hb1 1; have e2 : w1.cell? ⟨g, 2, none⟩ = some (.int .i64 ln) := blk_cell hb1 2; have e3 : w1.cell? ⟨g, 3, none⟩ = some (.slice A2 ts.length c2) := blk_cell hb1 3; have f31 := blk_frozen hb1 3; have f11 := blk_frozen hb1 1)
              all_goals go_wp2_with fail
              all_goals go_ret
              all_goals
                have r2 := r1
                rw [List.length_append, List.length_singleton] at r2
                rw [hqs.out]
                exact ⟨⟨rfl, sc_at (sc_put hBg (by have := b1.size; omega) hb1 r2) (e + 1)⟩, ((hB2.trans b1).setCell (p := ⟨g, 3, none⟩) hBg _).setCell (p := ⟨g, 1, none⟩) hBg _⟩
            · have hqn : Aside0 (qtR src i = none) := ⟨by rw [hqt'.out, if_neg (by rintro ⟨_, x⟩; exact ht x)]⟩
              have t1 : (200 : Int) < (t.size : Int) := by omega
              have t2 : decide ((200 : Int) < (t.size : Int)) = true := decide_eq_true t1
              go_wp2_with fail
              go_ret
              rw [hqn.out]
              exact ⟨⟨rfl, hS2.out⟩, hB2⟩
      · have e34 : ((src[e].toNat : Int) != 34) = true := bne_iff_ne.2 (u8n h34 (by decide))
        have e34' : ((src[e].toNat : Int) == 34) = false := beq_eq_false_iff_ne.2 (u8n h34 (by decide))
        by_cases h92 : src[e] = 92
        · have e92 : ((src[e].toNat : Int) == 92) = true := by rw [h92]; rfl
          have hq2 : Aside0 (e + 2 + qz (src.data.toList.drop (e + 2)) = i + 1 + qz (src.data.toList.drop (i + 1))) := ⟨by
            have := hq.out
            have e2 : (src.data.toList.drop (e + 1)).drop 1 = src.data.toList.drop (e + 2) := by rw [List.drop_drop]
            rw [hd, h92, qz_esc, e2] at this
            omega⟩
          clear h34 h92
          go_wp2_with fail
          go_roundg (src.size + 2 - (e + 2))
          case measure => omega
          case rel => exact ⟨e + 2, rfl, rfl, by omega, by omega, hq2, rfl⟩
        · have e92 : ((src[e].toNat : Int) == 92) = false := beq_eq_false_iff_ne.2 (u8n h92 (by decide))
          have hq2 : Aside0 (e + 1 + qz (src.data.toList.drop (e + 1)) = i + 1 + qz (src.data.toList.drop (i + 1))) := ⟨by
            have := hq.out
            rw [hd, qz_one _ _ h34 h92] at this
            omega⟩
          clear h34 h92
          go_wp2_with fail
          go_roundg (src.size + 2 - (e + 1))
          case measure => omega
          case rel => exact ⟨e + 1, rfl, rfl, by omega, by omega, hq2, rfl⟩
    · have i1 : ¬ (e : Int) < (src.size : Int) := by omega
      have i2 : (src.size : Int) ≤ (e : Int) := by omega
      have hqt : Aside0 (qtR src i = none) := ⟨by
        have := hq.out
        rw [List.drop_of_length_le (i := e) (by rw [sz_toList]; omega)] at this
        unfold qtR
        rw [if_neg (by rw [← this]; omega)]⟩
      go_wp2_with fail
      go_ret
      rw [hqt.out]
      exact ⟨⟨rfl, hBg, hBw, _, hb, hR⟩, Below.refl _ _⟩
end Go.Proofs.YtfefbnfmngdicaaDoor.PX
