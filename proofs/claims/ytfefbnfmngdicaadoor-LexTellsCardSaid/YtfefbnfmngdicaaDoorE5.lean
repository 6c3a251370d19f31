/- lex.Lex, walked by hand: the tokens of a source. -/
import Derived.Test.YtfefbnfmngdicaaDoorX9
import Derived.Test.YtfefbnfmngdicaaDoorX1
import Derived.Test.YtfefbnfmngdicaaDoorE1
import Derived.Test.YtfefbnfmngdicaaDoorPlain
namespace Go.Proofs.YtfefbnfmngdicaaDoor.PX
set_option linter.unusedVariables false
set_option linter.unusedSimpArgs false
open Go.RowKit Go.Proofs.YtfefbnfmngdicaaDoorW.PrintWords Go.Proofs.YtfefbnfmngdicaaDoorW.PrintLast Go.Proofs.YtfefbnfmngdicaaDoorW.PrintMore

/-- What holds at the head of Lex's loop: done or not. -/
def LexRel (src : ByteArray) (j : Nat) (ln : Int) (ts : List S43) : Bool → Prop
  | true => lexA src.data.toList 1 [] = (ts, 0, 0) ∧ ∃ ts0 l', ts = ts0 ++ [(⟨5, bs [], 0, l'⟩ : S43)]
  | false => lexA (src.data.toList.drop j) ln ts = lexA src.data.toList 1 [] ∧ ∀ x ∈ ts, x.f0 ≠ 5
/-- What a call of Lex has done. -/
def LexDid (src : ByteArray) (w : World) (e : Ending) (w' : World) : Prop :=
  ∃ v : Value, e = .returned (.tuple #[v, .int .i64 (lexA src.data.toList 1 []).2.1, .int .i64 (lexA src.data.toList 1 []).2.2]) ∧ Kd.R k43 43 w' w.heap.size (fun _ => True) v (lexA src.data.toList 1 []).1 ∧ Below w.heap.size w w'
theorem lexDid_mk {src : ByteArray} {w : World} {l : List S43} {b n : Int} (h : lexA src.data.toList 1 [] = (l, b, n)) {v : Value} {w' : World} (hr : Kd.R k43 43 w' w.heap.size (fun _ => True) v l) (hb : Below w.heap.size w w') :
    LexDid src w (.returned (.tuple #[v, .int .i64 b, .int .i64 n])) w' := by
  refine ⟨v, ?_, ?_, hb⟩
  · rw [h]
  · rw [h]; exact hr

set_option maxHeartbeats 4000000 in
set_option maxRecDepth 100000 in
theorem lex_walk (src : ByteArray) (w : World) (hE : Env w) (hs : src.size ≤ 8000) :
    Calls Tryd.prog 27 #[.string src] w fun e w' => LexDid src w e w' := by
  have HE := Aside0.mk hE
  clear hE
  have d8 : ¬ (8000 : Int) < (src.size : Int) := by omega
  go_enter Tryd.func27, Tryd.ntmps27
  go_wp2_with fail
  have hS0 : Sc w.heap.size w.heap.size src 0 1 [] (w.alloc (.cells #[.string src, .int .i64 0, .int .i64 1, .slice none 0 0] 73)) :=
    ⟨Nat.le_refl _, by simp, .slice none 0 0, by
      show (w.heap.push (.cells #[.string src, .int .i64 0, .int .i64 1, .slice none 0 0] 73 (0, 0)))[w.heap.size]? = _
      exact Array.getElem?_push_size, Kd.R_nil _ _ _ _ _⟩
  have hB0 : Below w.heap.size w (w.alloc (.cells #[.string src, .int .i64 0, .int .i64 1, .slice none 0 0] 73)) := (Below.refl _ w).alloc (Nat.le_refl _) _
  revert hS0 hB0
  generalize (w.alloc (.cells #[.string src, .int .i64 0, .int .i64 1, .slice none 0 0] 73)) = W0
  intro hS0 hB0
  go_loopg [] (src.size + 1) (fun nn wr => ∃ (j : Nat) (ln : Int) (ts : List S43) (dn : Bool), nn = (if dn = true then 0 else src.size + 1 - j) ∧ j ≤ src.size ∧ ts.length ≤ 3001 ∧ 0 ≤ ln ∧ ln ≤ (j : Int) + 1 ∧ Aside0 (LexRel src j ln ts dn) ∧ Aside0 (Sc w.heap.size w.heap.size src j ln ts wr) ∧ Below w.heap.size w wr)
  case atStart => exact ⟨0, 1, [], false, rfl, Nat.zero_le _, Nat.zero_le _, by omega, by omega, ⟨rfl, fun _ h => by cases h⟩, ⟨hS0⟩, hB0⟩
  case round =>
    clear hS0 hB0
    obtain ⟨j, ln, ts, dn, rfl, hj, hl, hl0, hl1, hrl, hS, hB⟩ := hrel
    go_upto_region 4 with fail
    go_cut [34] from 13 to 56 (fun v34 wx => v34 = .bool (!dn) ∧ ∃ q, wx = wr.drewN q)
    case first =>
      obtain ⟨hBg, hBw, v, hb, hR⟩ := hS.out
      cases ts with
      | nil =>
        obtain ⟨A, c, rfl⟩ := Kd.R_slice hR
        have c3 := blk_cell hb 3
        cases dn with
        | true =>
          exfalso
          obtain ⟨_, ts0, l', h⟩ := hrl.out
          cases ts0 <;> cases h
        | false =>
          simp only [List.getElem?_toArray, List.getElem?_cons_zero, List.getElem?_cons_succ, List.length_nil] at c3
          go_quiet (fail)
          go_wp2_with fail
          go_meet
          exact ⟨rfl, _, rfl⟩
      | cons x0 tr =>
        obtain ⟨gb, cap, rfl, _, _, _⟩ := Kd.R_form hR (by rw [List.length_cons]; omega)
        obtain ⟨_, _, hC⟩ := Kd.R_reads' hR
        have c3 : wr.cell? ⟨w.heap.size, 3, none⟩ = some (.slice (some ⟨gb, 0, none⟩) (x0 :: tr).length cap) := blk_cell hb 3
        have hn1 : 1 ≤ (x0 :: tr).length := by rw [List.length_cons]; omega
        obtain ⟨m, hm⟩ : ∃ m, (x0 :: tr).length = m + 1 := ⟨tr.length, rfl⟩
        obtain ⟨ad, e1, h0, _, _, _⟩ := at_T43 hC ((m : Nat) : Int) (by omega) (by omega)
        cases e1
        have hx : (rd_T43 (x0 :: tr) ((m : Nat) : Int)).f0 = 5 ∨ (rd_T43 (x0 :: tr) ((m : Nat) : Int)).f0 ≠ 5 := by omega
        have hdn : (dn = true → (rd_T43 (x0 :: tr) ((m : Nat) : Int)).f0 = 5) ∧ (dn = false → (rd_T43 (x0 :: tr) ((m : Nat) : Int)).f0 ≠ 5) := by
          unfold rd_T43
          rw [Int.toNat_natCast, List.getD_eq_getElem?_getD]
          constructor
          · rintro rfl
            obtain ⟨_, ts0, l', ht⟩ := hrl.out
            rw [ht] at hm ⊢
            rw [List.length_append, List.length_singleton] at hm
            rw [List.getElem?_append_right (by omega), show m - ts0.length = 0 by omega]
            rfl
          · rintro rfl
            have := hrl.out.2 ((x0 :: tr)[m]'(by omega)) (List.getElem_mem _)
            rw [List.getElem?_eq_getElem (by omega)]
            exact this
        revert h0 hdn
        generalize (rd_T43 (x0 :: tr) ((m : Nat) : Int)).f0 = f0
        intro h0 hdn
        have h0' : wr.cell? ⟨gb, m * 4, none⟩ = some (.int .i64 f0) := by
          have h1 := h0
          simp only [Int.toNat_natCast, Addr.add, Nat.zero_add] at h1
          split at h1
          · rename_i hz; rw [hz]; exact h1
          · exact h1
        clear h0
        revert c3 hm
        generalize (x0 :: tr).length = n at *
        intro c3 hm
        have l1 : ((n : Int) == 0) = false := beq_eq_false_iff_ne.2 (by omega)
        have l2 : IntKind.i64.wrap ((n : Int) - 1) = (m : Int) := by rw [w64x (by omega) (by omega)]; omega
        have l3 : (0 : Int) ≤ (m : Int) := by omega
        have l4 : (m : Int) < (n : Int) := by omega
        clear hR hC hrl hm hn1 hx hl hb hS
        cases dn with
        | true =>
          obtain rfl := hdn.1 rfl
          clear hdn
          go_quiet (fail)
          go_wp2_with fail
          go_meet
          exact ⟨rfl, _, rfl⟩
        | false =>
          have e5 : (f0 != 5) = true := bne_iff_ne.2 (hdn.2 rfl)
          clear hdn
          go_quiet (fail)
          go_wp2_with fail
          go_meet
          exact ⟨rfl, _, rfl⟩
    case rest =>
      obtain ⟨rfl, q, hwq⟩ := hcut
      have hS1 := Aside0.mk (sc_drewN hS.out q)
      have hB1 := below_drewN' hB q
      rw [← hwq] at hS1 hB1
      clear hwq hS hB
      obtain ⟨wa, rfl⟩ : ∃ wa : World, wa = wc := ⟨_, rfl⟩
      cases dn with
      | true =>
        obtain ⟨hBg, hBw, v, hb, hR⟩ := hS1.out
        obtain ⟨A, c, rfl⟩ := Kd.R_slice hR
        have c3 : wa.cell? ⟨w.heap.size, 3, none⟩ = some (.slice A ts.length c) := blk_cell hb 3
        go_wp2_with fail
        go_ret3
        exact lexDid_mk hrl.out.1 (Kd.R_mono hR (fun _ _ => trivial)) hB1
      | false =>
        go_wp2_with fail
        refine (skip_any _ _ src j ln ts _ hS1.out hj (by omega)).mono ?_
        rintro e w1 ⟨rfl, ⟨j', hjj, hjs, hsk0, hS2'⟩, hb2⟩
        have hsk := Aside0.mk hsk0
        have hS2 := Aside0.mk hS2'
        clear hsk0 hS2' hS1
        have hB2 := hB1.trans hb2
        clear hB1 hb2
        obtain ⟨hBg, hBw, v, hb, hR⟩ := hS2.out
        obtain ⟨A, c, rfl⟩ := Kd.R_slice hR
        have c3 : w1.cell? ⟨w.heap.size, 3, none⟩ = some (.slice A ts.length c) := blk_cell hb 3
        have c2 : w1.cell? ⟨w.heap.size, 2, none⟩ = some (.int .i64 ln) := blk_cell hb 2
        by_cases hfull : 3000 ≤ ts.length
        · have d3 : (3000 : Int) ≤ (ts.length : Int) := by omega
          have hres : Aside0 (lexA src.data.toList 1 [] = ([], 6, ln)) := ⟨by rw [← hrl.out.1]; exact lexA_full _ _ _ hfull⟩
          go_wp2_with fail
          go_quiet (fail)
          go_wp2_with fail
          go_ret3
          exact lexDid_mk hres.out (Kd.R_nil _ _ _ _ _) (below_drewN' hB2 _)
        · have d3 : ¬ (3000 : Int) ≤ (ts.length : Int) := by omega
          have hrl1 := Aside0.mk hrl.out.1
          have hrl2 := Aside0.mk hrl.out.2
          by_cases hlt : j' < src.size
          · have hd : src.data.toList.drop j' = src[j'] :: src.data.toList.drop (j' + 1) := by
              rw [List.drop_eq_getElem_cons (by rw [sz_toList]; exact hlt)]; rfl
            have hdl : (src.data.toList.drop j').length = src.size - j' := by rw [List.length_drop, sz_toList]
            rcases htk0 : tokF (src.data.toList.drop j') with b | ⟨kd, t, m, n⟩
            · have htk := Aside0.mk htk0
              have hb11 := tokF_err htk0
              have hres : Aside0 (lexA src.data.toList 1 [] = ([], b, ln)) := ⟨by
                rw [← hrl1.out]
                exact lexA_err _ _ _ hfull _ _ (by rw [← hsk.out, hd]) b (by rw [← hd]; exact htk0)⟩
              clear htk0 hd hdl
              rcases nxK_cases src j' hlt with hK0 | hK0 | hK0 | hK0
              all_goals
                have hK := Aside0.mk hK0
                clear hK0
                go_wp2_with fail
                refine (next_K _ _ src j' ln ts _ hS2.out hlt (by omega) _ hK.out).mono ?_
                rintro e w2 ⟨rfl, q2, rfl⟩
                have hS3 := Aside0.mk (sc_drewN hS2.out q2)
                have hB3 := below_drewN' hB2 q2
                have hE3 := Aside0.mk (envB HE.out hB3)
                revert hS3 hB3 hE3
                generalize w1.drewN q2 = W3
                intro hS3 hB3 hE3
                go_wp2_with fail
                refine (take_any _ _ src j' ln ts _ hS3.out hE3.out hlt (by omega) (by omega) ⟨hl0, by omega⟩ _ hK.out).mono ?_
                rintro e w4 ⟨hT, hb4⟩
                have hB4 := hB3.trans hb4
                unfold Took at hT
                rw [htk.out] at hT
                obtain ⟨rfl, hS4⟩ := hT
                obtain ⟨_, _, v4, hb4', _⟩ := hS4
                have k2 : w4.cell? ⟨w.heap.size, 2, none⟩ = some (.int .i64 ln) := blk_cell hb4' 2
                have hbz : (b != 0) = true := by rcases hb11 with rfl | rfl <;> rfl
                go_wp2_with fail
                go_quiet (fail)
                go_wp2_with fail
                go_ret3
                exact lexDid_mk hres.out (Kd.R_nil _ _ _ _ _) (below_drewN' hB4 _)
            · have htk := Aside0.mk htk0
              have hin := tokF_in htk0
              have hpos := tokF_pos htk0
              rw [hdl] at hin
              obtain ⟨hin1, hin2, hin3⟩ := hin
              have hres : Aside0 (lexA (src.data.toList.drop (j' + n)) (if kd = 4 then ln + 1 else ln) (ts ++ [(⟨kd, bs t, m, ln⟩ : S43)]) = lexA src.data.toList 1 []) := ⟨by
                rw [← hrl1.out, lexA_tok _ _ _ hfull src[j'] (src.data.toList.drop (j' + 1)) (by rw [← hsk.out, hd]) kd t m n (by rw [← hd]; exact htk0), ← hd, List.drop_drop]⟩
              have hkd : Aside0 (∀ x ∈ ts ++ [(⟨kd, bs t, m, ln⟩ : S43)], x.f0 ≠ 5) := ⟨fun x hx => by
                rcases List.mem_append.1 hx with h | h
                · exact hrl2.out x h
                · rw [List.mem_singleton.1 h]; show kd ≠ 5; omega⟩
              have hln : (0 : Int) ≤ (if kd = 4 then ln + 1 else ln) ∧ (if kd = 4 then ln + 1 else ln) ≤ ((j' + n : Nat) : Int) + 1 := by split <;> omega
              have hln' := Aside0.mk hln
              clear htk0 hd hdl hln
              rcases nxK_cases src j' hlt with hK0 | hK0 | hK0 | hK0
              all_goals
                have hK := Aside0.mk hK0
                clear hK0
                go_wp2_with fail
                refine (next_K _ _ src j' ln ts _ hS2.out hlt (by omega) _ hK.out).mono ?_
                rintro e w2 ⟨rfl, q2, rfl⟩
                have hS3 := Aside0.mk (sc_drewN hS2.out q2)
                have hB3 := below_drewN' hB2 q2
                have hE3 := Aside0.mk (envB HE.out hB3)
                revert hS3 hB3 hE3
                generalize w1.drewN q2 = W3
                intro hS3 hB3 hE3
                go_wp2_with fail
                refine (take_any _ _ src j' ln ts _ hS3.out hE3.out hlt (by omega) (by omega) ⟨hl0, by omega⟩ _ hK.out).mono ?_
                rintro e w4 ⟨hT, hb4⟩
                have hB4 := hB3.trans hb4
                unfold Took at hT
                rw [htk.out] at hT
                obtain ⟨rfl, hS4⟩ := hT
                go_wp2_with fail
                go_roundg (src.size + 1 - (j' + n))
                case measure => first | omega | (show _ < src.size + 1 - j; omega) | (trace_state; fail)
                case rel => exact ⟨j' + n, _, _, false, rfl, by omega, by rw [List.length_append, List.length_singleton]; omega, hln'.out.1, hln'.out.2, ⟨hres.out, hkd.out⟩, ⟨hS4⟩, hB4⟩
          · have hje : j' = src.size := by omega
            have hres : Aside0 (lexA src.data.toList 1 [] = (ts ++ [(⟨5, bs [], 0, ln⟩ : S43)], 0, 0)) := ⟨by
              rw [← hrl1.out]
              exact lexA_end _ _ _ hfull (by rw [← hsk.out, hje, List.drop_of_length_le (by rw [sz_toList]; exact Nat.le_refl _)])⟩
            have hje' := Aside0.mk hje
            clear hje
            go_wp2_with fail
            refine (next_end _ _ src j' ln ts _ hS2.out hje'.out (by omega)).mono ?_
            rintro e w2 ⟨rfl, q2, rfl⟩
            unfold fnV
            have hS3 := Aside0.mk (sc_drewN hS2.out q2)
            have hB3 := below_drewN' hB2 q2
            revert hS3 hB3
            generalize w1.drewN q2 = W3
            intro hS3 hB3
            go_wp2_with fail
            refine (end_any _ _ src j' ln ts _ hS3.out (by omega)).mono ?_
            rintro e w4 ⟨rfl, hS4, hb4⟩
            have hB4 := hB3.trans hb4
            go_wp2_with fail
            go_roundg 0
            case measure => first | omega | (show _ < src.size + 1 - j; omega) | (trace_state; fail)
            case rel => exact ⟨j', ln, _, true, rfl, by omega, by rw [List.length_append, List.length_singleton]; omega, hl0, by omega, ⟨hres.out, ts, ln, rfl⟩, ⟨hS4⟩, hB4⟩
end Go.Proofs.YtfefbnfmngdicaaDoor.PX

/- lex.Write, walked by hand: a source for tokens. -/
namespace Go.Proofs.YtfefbnfmngdicaaDoor.PX
set_option linter.unusedVariables false
set_option linter.unusedSimpArgs false
open Go.RowKit Go.Proofs.YtfefbnfmngdicaaDoorW.PrintWords Go.Proofs.YtfefbnfmngdicaaDoorW.PrintLast Go.Proofs.YtfefbnfmngdicaaDoorW.PrintMore

/-- What Write writes for a token. -/
def wrT (t : S43) : List UInt8 :=
  if t.f0 = 0 ∨ t.f0 = 1 ∨ t.f0 = 3 then t.f1.data.toList ++ [32] else if t.f0 = 2 then quo t.f1.data.toList ++ [32] else if t.f0 = 4 then [10] else []
def wrL (l : List S43) : List UInt8 := l.flatMap wrT
theorem wrL_take (l : List S43) (k : Nat) (h : k < l.length) : wrL (l.take (k + 1)) = wrL (l.take k) ++ wrT l[k] := by
  unfold wrL; rw [List.take_succ_eq_append_getElem h, List.flatMap_append, List.flatMap_singleton]
theorem wrL_le (l : List S43) (k : Nat) : (wrL (l.take k)).length ≤ (wrL l).length := by
  have : wrL l = wrL (l.take k) ++ wrL (l.drop k) := by simp only [wrL, ← List.flatMap_append, List.take_append_drop]
  rw [this, List.length_append]
  omega

theorem app_list (a b : ByteArray) : (a ++ b).data.toList = a.data.toList ++ b.data.toList := by rw [ByteArray.data_append, Array.toList_append]
theorem app_cells (a b : ByteArray) : Lib.strCells (a ++ b) = Lib.byteCells (a.data.toList ++ b.data.toList) := by
  rw [← app_list]; rfl
theorem quo_len4 (l : List UInt8) : (quo l).length ≤ 4 * l.length + 2 := by
  have := quoF_len l
  unfold quo
  rw [List.length_append, List.length_cons, List.length_singleton]
  omega
set_option maxHeartbeats 4000000 in
set_option maxRecDepth 100000 in
theorem write_any (A0 : Option Addr) (c0 : Nat) (l : List S43) (w : World) (hr : Kd.C k43 w A0 l.length l) (hl : (wrL l).length ≤ 1000000000000) (hn : l.length ≤ 1000000) (hz : ∀ t ∈ l, t.f1.size ≤ 1000000) :
    Calls Tryd.prog 31 #[.slice A0 l.length c0] w fun e w' => e = .returned (.string ⟨(wrL l).toArray⟩) ∧ Below w.heap.size w w' := by
  have HR := Aside0.mk hr
  have HZ := Aside0.mk hz
  clear hr hz
  go_enter Tryd.func31, Tryd.ntmps31
  go_wp2
  go_loopw [8] (fun i wr => ∃ k : Nat, k ≤ l.length ∧ i = .int .i64 k ∧ Lib.IsBuilder 54 5 w.heap.size w.heap.size (Lib.byteCells (wrL (l.take k))) wr ∧ Below w.heap.size w wr) (fun i _ => l.length - (intOf i).toNat)
  case atStart => exact ⟨0, Nat.zero_le _, rfl, Lib.fresh_isBuilder 54 5 w, (Below.refl _ w).alloc (Nat.le_refl _) _⟩
  case round =>
    obtain ⟨k, hk, rfl, hI, hB⟩ := hrel
    have hu := wrL_le l k
    by_cases hlt : k < l.length
    · have hts := Lib.hid (wrL_take l k hlt)
      have hu1 : (wrL (l.take k) ++ wrT l[k]).length ≤ (wrL l).length := by rw [← wrL_take l k hlt]; exact wrL_le l (k + 1)
      rw [List.length_append] at hu1
      obtain ⟨ad, e1, h0, h1, h2, h3⟩ := at_T43 HR.out (k : Int) (by omega) (by omega)
      have h0' := pw_cell_below hB h0
      have h1' := pw_cell_below hB h1
      have h2' := pw_cell_below hB h2
      have h3' := pw_cell_below hB h3
      cases e1
      clear h0 h1 h2 h3
      have hrd : rd_T43 l (k : Int) = l[k] := by simp [rd_T43, List.getD_eq_getElem?_getD, hlt]
      rw [hrd] at h0' h1' h2' h3'
      simp only [Int.toNat_natCast] at h0' h1' h2' h3'
      clear hrd
      have hz1 : l[k].f1.size ≤ 1000000 := HZ.out _ (List.getElem_mem _)
      revert hts hu1 h0' h1' h2' h3' hz1
      generalize l[k] = t
      intro hts hu1 h0' h1' h2' h3' hz1
      rcases t with ⟨f0, f1, f2, f3⟩
      simp only at h0' h1' h2' h3'
      have hu2 := Aside0.mk hu1
      clear hu1
      have fin : Aside0 (∀ (w2 : World) (x : List UInt8), wrT ⟨f0, f1, f2, f3⟩ = x → Lib.IsBuilder 54 5 w.heap.size w.heap.size (Lib.byteCells (wrL (l.take k)) ++ Lib.byteCells x) w2 → Lib.IsBuilder 54 5 w.heap.size w.heap.size (Lib.byteCells (wrL (l.take (k + 1)))) w2) := ⟨fun w2 x hx hI2 => by
        rw [hts.out, hx, Lib.byteCells_append]; exact hI2⟩
      have hz2 : f1.size ≤ 1000000 := hz1
      clear hz1
      have hz3 : f1.data.toList.length = f1.size := sz_toList _
      have hz4 := Nat.le_of_eq hz3
      have hz32 : (⟨#[32]⟩ : ByteArray).size ≤ 1 := Nat.le_refl 1
      clear hz3
      by_cases hA : f0 = 0 ∨ f0 = 1 ∨ f0 = 3
      · have hwt : Aside0 (wrT ⟨f0, f1, f2, f3⟩ = f1.data.toList ++ [32]) := ⟨if_pos hA⟩
        have hu3 : (wrL (List.take k l)).length + (f1.size + 1) ≤ (wrL l).length := by
          have := hu2.out
          rw [hwt.out, List.length_append, List.length_singleton, sz_toList] at this
          exact this
        rcases hA with rfl | rfl | rfl
        all_goals
          go_wp2_with fail
          refine (writeString_any _ _ _ _ _ (isBuilder_below hI ((Below.refl _ wr).alloc (Nat.le_refl _) _)) (by rw [Lib.byteCells_length, ByteArray.size_append]; omega) (by have := hB.size; rw [World.size_alloc]; omega)).mono ?_
          rintro e w1 ⟨rfl, h1, b1⟩
          have hB1 := (hB.alloc hB.size _).trans b1
          go_wp2
          go_roundw
          case rel => exact ⟨k + 1, by omega, by go_num, fin.out _ _ hwt.out (by rw [app_cells] at h1; exact h1), hB1⟩
          case measure => simp [intOf]; omega
      by_cases hB2 : f0 = 2
      · subst hB2
        have hwt : Aside0 (wrT ⟨2, f1, f2, f3⟩ = quo f1.data.toList ++ [32]) := ⟨rfl⟩
        have hu3 : (wrL (List.take k l)).length + ((quo f1.data.toList).length + 1) ≤ (wrL l).length := by
          have := hu2.out
          rw [hwt.out, List.length_append, List.length_singleton] at this
          exact this
        have hqq : text_Quote.f f1 = some ⟨(quo f1.data.toList).toArray⟩ := if_pos hz2
        have hqz : (⟨(quo f1.data.toList).toArray⟩ : ByteArray).size ≤ (quo f1.data.toList).length := by rw [ByteArray.size, List.size_toArray]; exact Nat.le_refl _
        have hq4 := quo_len4 f1.data.toList
        have hql : Aside0 ((⟨(quo f1.data.toList).toArray⟩ : ByteArray).data.toList = quo f1.data.toList) := ⟨rfl⟩
        revert hqq hqz hql
        generalize (⟨(quo f1.data.toList).toArray⟩ : ByteArray) = q
        intro hqq hqz hql
        have HQ := Aside0.mk hqq
        clear hqq
        have hI1 := isBuilder_below hI ((Below.refl _ wr).alloc (Nat.le_refl _) (.cells #[.int .i64 2, .string f1, .int .i64 f2, .int .i64 f3] 43))
        go_wp2_with fail
        refine (text_Quote.calls f1 q _ HQ.out).mono ?_
        rintro e w1 ⟨rfl, b1⟩
        have hB1 := (hB.alloc hB.size (.cells #[.int .i64 2, .string f1, .int .i64 f2, .int .i64 f3] 43)).trans (b1.mono (by have := hB.size; rw [World.size_alloc]; omega))
        go_wp2_with fail
        refine (writeString_any _ _ _ _ _ (isBuilder_below hI1 b1) (by rw [Lib.byteCells_length, ByteArray.size_append]; omega) hB1.size).mono ?_
        rintro e w2 ⟨rfl, h2, b2⟩
        have hB2 := hB1.trans b2
        go_wp2
        go_roundw
        case rel => exact ⟨k + 1, by omega, by go_num, fin.out _ _ hwt.out (by rw [app_cells, hql.out] at h2; exact h2), hB2⟩
        case measure => simp [intOf]; omega
      by_cases hB4 : f0 = 4
      · subst hB4
        have hwt : Aside0 (wrT ⟨4, f1, f2, f3⟩ = [10]) := ⟨rfl⟩
        have hu3 : (wrL (List.take k l)).length + 1 ≤ (wrL l).length := by
          have := hu2.out
          rw [hwt.out, List.length_singleton] at this
          exact this
        go_wp2_with fail
        refine (writeByte_any _ _ _ 10 _ (isBuilder_below hI ((Below.refl _ wr).alloc (Nat.le_refl _) _)) (by rw [Lib.byteCells_length]; omega) (by have := hB.size; rw [World.size_alloc]; omega)).mono ?_
        rintro e w1 ⟨rfl, h1, b1⟩
        have hB1 := (hB.alloc hB.size (.cells #[.int .i64 4, .string f1, .int .i64 f2, .int .i64 f3] 43)).trans b1
        go_wp2
        go_roundw
        case rel => exact ⟨k + 1, by omega, by go_num, fin.out _ _ hwt.out h1, hB1⟩
        case measure => simp [intOf]; omega
      · have hwt : Aside0 (wrT ⟨f0, f1, f2, f3⟩ = []) := ⟨by unfold wrT; rw [if_neg hA, if_neg hB2, if_neg hB4]⟩
        have e0 : (f0 == 0) = false := beq_eq_false_iff_ne.2 (fun h => hA (.inl h))
        have e1 : (f0 == 1) = false := beq_eq_false_iff_ne.2 (fun h => hA (.inr (.inl h)))
        have e3 : (f0 == 3) = false := beq_eq_false_iff_ne.2 (fun h => hA (.inr (.inr h)))
        have e2 : (f0 == 2) = false := beq_eq_false_iff_ne.2 hB2
        have e4 : (f0 == 4) = false := beq_eq_false_iff_ne.2 hB4
        have hI1 := isBuilder_below hI ((Below.refl _ wr).alloc (Nat.le_refl _) (.cells #[.int .i64 f0, .string f1, .int .i64 f2, .int .i64 f3] 43))
        clear hA hB2 hB4
        go_wp2_with fail
        go_roundw
        case rel => exact ⟨k + 1, by omega, by go_num, fin.out _ _ hwt.out (by rw [show Lib.byteCells [] = [] from rfl, List.append_nil]; exact hI1), hB.alloc hB.size _⟩
        case measure => simp [intOf]; omega
    · have i1 : ¬ (k : Int) < (l.length : Int) := by omega
      go_wp2_with fail
      refine (Tryd.Builder_String_any _ _ (wrL l) _ (by rw [List.take_of_length_le (by omega)] at hI; exact hI) hB.size).mono ?_
      rintro e w1 ⟨rfl, b1⟩
      go_wp2
      go_ret
      exact ⟨rfl, hB.trans b1⟩
end Go.Proofs.YtfefbnfmngdicaaDoor.PX

/- The contracts of lex.Lex and lex.Write in the printed functions' own form. -/
namespace Go.Proofs.YtfefbnfmngdicaaDoor.PX
set_option linter.unusedVariables false
set_option linter.unusedSimpArgs false
open Go.RowKit Go.Proofs.YtfefbnfmngdicaaDoorW.PrintWords

def lex_Lex.f (a0 : ByteArray) : Option (List S43 × Int × Int) := if a0.size ≤ 1000000 then some (if a0.size ≤ 8000 then lexA a0.data.toList 1 [] else ([], 6, 0)) else none
set_option maxRecDepth 100000 in
theorem lex_long (s : ByteArray) (hs : ¬ s.size ≤ 8000) (w : World) :
    Calls Tryd.prog 27 #[.string s] w fun e w' => e = .returned (.tuple #[.slice none 0 0, .int .i64 6, .int .i64 0]) ∧ w' = w := by
  have d8 : (8000 : Int) < (s.size : Int) := by omega
  go_enter Tryd.func27, Tryd.ntmps27
  go_wp2_with fail
  go_ret3
  exact ⟨rfl, rfl⟩
theorem lex_Lex.calls (a0 : ByteArray) (r1 : List S43) (r2 r3 : Int) (w : World) (hE : Env w) (h : lex_Lex.f a0 = some (r1, r2, r3)) :
    Calls Tryd.prog 27 #[.string a0] w fun e w' => ∃ v0_ : Value, e = .returned (.tuple #[v0_, .int .i64 r2, .int .i64 r3]) ∧ Kd.R k43 43 w' w.heap.size (fun _ => True) v0_ r1 ∧ Below w.heap.size w w' := by
  unfold lex_Lex.f at h
  split at h
  · have h := Option.some.inj h
    split at h
    · rename_i hs
      refine (lex_walk a0 w hE hs).mono ?_
      rintro e w' ⟨v, he, hr, hb⟩
      rw [h] at he hr
      exact ⟨v, he, hr, hb⟩
    · rename_i hs
      injection h with h1 h
      injection h with h2 h3
      subst h1 h2 h3
      refine (lex_long a0 hs w).mono ?_
      rintro e w' ⟨rfl, rfl⟩
      exact ⟨_, rfl, Kd.R_nil _ _ _ _ _, Below.refl _ _⟩
  · cases h

def lex_Write.f (l0 : List S43) : Option ByteArray := if (wrL l0).length ≤ 1000000000000 ∧ l0.length ≤ 1000000 ∧ ∀ t ∈ l0, t.f1.size ≤ 1000000 then some ⟨(wrL l0).toArray⟩ else none
theorem lex_Write.calls (A0 : Option Addr) (c0 : Nat) (l0 : List S43) (r : ByteArray) (w : World) (hr0 : Kd.C k43 w A0 l0.length l0) (hc0 : l0.length ≤ c0) (h : lex_Write.f l0 = some r) :
    Calls Tryd.prog 31 #[.slice A0 l0.length c0] w fun e w' => e = .returned (.string r) ∧ Below w.heap.size w w' := by
  unfold lex_Write.f at h
  split at h
  · rename_i hs
    exact (write_any A0 c0 l0 w hr0 hs.1 hs.2.1 hs.2.2).mono fun e w' ⟨he, hw⟩ => ⟨by rw [he, ← Option.some.inj h], hw⟩
  · cases h
end Go.Proofs.YtfefbnfmngdicaaDoor.PX
