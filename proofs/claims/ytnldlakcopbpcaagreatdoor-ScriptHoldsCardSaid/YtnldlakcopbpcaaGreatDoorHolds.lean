/- Contract: ScriptHolds. -/
import Derived.Test.YtnldlakcopbpcaaGreatDoorWorks
import Derived.Test.YtnldlakcopbpcaaGreatDoorNl
import Derived.Test.YtnldlakcopbpcaaGreatDoorBound
namespace Go.Proofs.YtnldlakcopbpcaaGreatDoor
open Go.RowKit Go.Lib

theorem ActsAt.slice {w : World} {v : Value} {l : List ActD} (h : ActsAt w v l) : ∃ ao cap, v = .slice ao l.length cap ∧ ∀ i (hi : i < l.length), ∃ b off, ao = some ⟨b, off, none⟩ ∧ ActIn w b (off + i * 10) l[i] := by
  rcases h with ⟨rfl, ao, cap, rfl⟩ | ⟨b, off, cap, rfl, h⟩
  · exact ⟨ao, cap, rfl, fun i hi => absurd hi (by simp)⟩
  · exact ⟨_, cap, rfl, fun i hi => ⟨b, off, rfl, h i hi⟩⟩
theorem RowAt.at {w : World} {v : Value} {xs : List Value} (h : RowAt w v xs) : ∃ ao cap, v = .slice ao xs.length cap ∧ ∀ i (hi : i < xs.length), ∃ b off, ao = some ⟨b, off, none⟩ ∧ w.cell? ⟨b, off + i, none⟩ = some xs[i] := by
  rcases h with ⟨rfl, ao, cap, rfl⟩ | ⟨b, off, cap, rfl, h⟩
  · exact ⟨ao, cap, rfl, fun i hi => absurd hi (by simp)⟩
  · exact ⟨_, cap, rfl, fun i hi => ⟨b, off, rfl, h i hi⟩⟩

/-- The text behind k rounds. -/
structure TxtAt (l : List ActD) (k : Nat) (t : ByteArray) (ps : List ByteArray) : Prop where
  eq : t = txt ps
  acts : (full ps).map parseA = l.take k
  good : ∀ s ∈ full ps, parseE s = 0
  size : t.size ≤ 1605 * k
  each : ∀ s ∈ ps, s.size ≤ 1000000

theorem txt_rep (ps : List ByteArray) (m : Nat) : txt (ps ++ List.replicate m ⟨#[]⟩) ++ (⟨#[10]⟩ : ByteArray) = txt (ps ++ List.replicate (m + 1) ⟨#[]⟩) := by
  rw [show (⟨#[10]⟩ : ByteArray) = nl from rfl, txt_empty, List.append_assoc, List.replicate_succ']
theorem full_app (a b : List ByteArray) : full (a ++ b) = full a ++ full b := List.filter_append ..
theorem full_rep (m : Nat) : full (List.replicate m ⟨#[]⟩) = [] := by
  unfold full; rw [List.filter_eq_nil_iff]; intro x hx
  rw [(List.mem_replicate.1 hx).2]; simp
theorem TxtAt.next {l : List ActD} {k m : Nat} {x y s : ByteArray} {ps : List ByteArray} {a : ActD} (h : TxtAt l k x ps) (hm : m ≤ 3) (hy : y = txt (ps ++ List.replicate m ⟨#[]⟩)) (hys : y.size ≤ x.size + m)
    (h1 : parseE s = 0) (h2 : parseA s = a) (ht : l.take (k + 1) = l.take k ++ [a]) (hs : s.size ≤ 1601) : TxtAt l (k + 1) (y ++ s ++ (⟨#[10]⟩ : ByteArray)) ((ps ++ List.replicate m ⟨#[]⟩) ++ [s]) := by
  have hne := good_ne h1
  have hfs : full [s] = [s] := by simp [full, hne]
  have hfull : full ((ps ++ List.replicate m ⟨#[]⟩) ++ [s]) = full ps ++ [s] := by rw [full_app, full_app, full_rep, hfs, List.append_nil]
  refine ⟨by rw [hy]; exact txt_line _ _, by rw [hfull, List.map_append, h.acts, ht]; simp [h2], ?_, ?_, ?_⟩
  · intro p hp
    rw [hfull] at hp
    rcases List.mem_append.1 hp with hp | hp
    · exact h.good p hp
    · rw [List.mem_singleton.1 hp]; exact h1
  · rw [ByteArray.size_append, ByteArray.size_append]
    have := h.size
    have e : (⟨#[10]⟩ : ByteArray).size = 1 := rfl
    rw [e]; omega
  · intro p hp
    rcases List.mem_append.1 hp with hp | hp
    · rcases List.mem_append.1 hp with hp | hp
      · exact h.each p hp
      · rw [(List.mem_replicate.1 hp).2]; exact Nat.zero_le _
    · rw [List.mem_singleton.1 hp]; omega
theorem TxtAt.nonl {l : List ActD} {k : Nat} {x : ByteArray} {ps : List ByteArray} (h : TxtAt l k x ps) : ∀ s ∈ ps, NoNl s := by
  intro s hs
  by_cases e : s = ⟨#[]⟩
  · rw [e]; intro c hc; simp at hc
  · exact good_no_nl (h.good s (List.mem_filter.2 ⟨hs, by simpa using e⟩))

def HRel (l : List ActD) (w : World) (t i : Value) (wr : World) : Prop :=
  ∃ (k : Nat) (x : ByteArray) (ps : List ByteArray), k ≤ l.length ∧ i = .int .i64 (k : Int) ∧ t = .string x ∧ Hid (TxtAt l k x ps) ∧ Hid (Fr [] w wr)

def IRel (x : ByteArray) (ps : List ByteArray) (wc : World) (t j : Value) (wr : World) : Prop :=
  ∃ (m : Nat) (y : ByteArray), m ≤ 3 ∧ j = .int .i64 (m : Int) ∧ t = .string y ∧ Hid (y = txt (ps ++ List.replicate m ⟨#[]⟩)) ∧ y.size ≤ x.size + m ∧ wr = wc

set_option maxRecDepth 100000 in
set_option maxHeartbeats 8000000 in
theorem holds_any {B : Nat} (hsame : SameC) (l : List ActD) (es : List Nat) (lv ev : Value) (w : World) (hG : Gl B w) (hn : l.length ≤ 9223372036854775807) (hlv : ActsAt w lv l) (hev : RowAt w ev (es.map u8v)) (hes : ∀ e ∈ es, e < 256) (hI : ∀ a ∈ l, FewOk a → ActOk a) :
    Calls Tryz.prog 3 #[lv, ev] w fun e w' => e = .returned (.bool true) ∧ Fr [] w w' := by
  have HS := Lib.hid hsame; clear hsame
  obtain ⟨ao, cap, rfl, hl⟩ := hlv.slice
  obtain ⟨eo, ecap, rfl, he⟩ := hev.at
  rw [List.length_map] at *
  have HLV := Lib.hid hlv; have HL := Lib.hid hl; have HE := Lib.hid he; have HES := Lib.hid hes; have HI := Lib.hid hI
  clear hl he hes hI hlv hev
  go_enter Tryz.func3, Tryz.ntmps3
  go_upto_region 1 with fail
  go_wp2_with fail
  refine (few_any l 20 _ w hn HLV.out (by decide)).mono ?_
  rintro e w1 ⟨r, rfl, hr, hf⟩
  have HR := Lib.hid hr; have F1 := Lib.hid hf
  clear hr hf
  cases r
  · go_wp2_with fail
    refine (works_any (B := B) HS.out w1 (hG.fr0 F1.out)).mono ?_
    rintro e w2 ⟨rfl, hf2⟩
    go_wp2_with fail
    go_ret
    exact ⟨rfl, F1.out.trans hf2⟩
  · have hfew := HR.out.1 rfl
    have HF := Lib.hid hfew.1
    have hl20 : l.length ≤ 20 := by have := hfew.2; omega
    clear hfew HR
    by_cases hb : 20 < es.length
    · have t1 : decide ((20 : Int) < (es.length : Int)) = true := decide_eq_true (by omega)
      go_wp2_with fail
      refine (works_any (B := B) HS.out w1 (hG.fr0 F1.out)).mono ?_
      rintro e w2 ⟨rfl, hf2⟩
      go_wp2_with fail
      go_ret
      exact ⟨rfl, F1.out.trans hf2⟩
    · have t1 : decide ((20 : Int) < (es.length : Int)) = false := decide_eq_false (by omega)
      go_wp2_with fail
      go_loopw [5, 6, 7, 8, 9, 10, 11] (fun t i _ _ _ _ _ wr => HRel l w t i wr) (fun _ i _ _ _ _ _ _ => l.length - (RowKit.intOf i).toNat)
      case atStart => exact ⟨0, ⟨#[]⟩, [], by omega, rfl, rfl, Lib.hid ⟨rfl, rfl, (fun _ h => by cases h), Nat.le_refl _, (fun _ h => by cases h)⟩, F1⟩
      case round =>
        obtain ⟨k, x, ps, hk, rfl, rfl, hT, hF⟩ := hrel
        by_cases hlt : k < l.length
        · obtain ⟨b, off, rfl, hAct⟩ := HL.out k hlt
          obtain ⟨vb, vm, hB, hM, c0, c1, c2, c3, c4, c5, c6, c7, c8, c9⟩ := hAct.fr0 hF.out
          obtain ⟨p1, n1, rfl⟩ := hB.slice
          obtain ⟨p2, n2, rfl⟩ := hM.slice
          have HFA : Hid (FewOk l[k]) := Lib.hid (HF.out _ (List.getElem_mem hlt))
          have ok : ActOk l[k] := HI.out _ (List.getElem_mem hlt) HFA.out
          have HTK : Hid (l.take (k + 1) = l.take k ++ [l[k]]) := Lib.hid (List.take_succ_eq_append_getElem hlt)
          rw [List.length_map] at c8 c9
          have HV : Hid (ActV wr l[k] (.agg (actCells l[k] (.slice p1 (l[k].bytes.map u8v).length n1) (.slice p2 (l[k].marks.map Value.bool).length n2)))) := Lib.hid ⟨_, _, rfl, hB, hM⟩
          rw [List.length_map, List.length_map] at HV
          generalize l[k] = a at *
          have hb := World.block_lt_of_cell? wr _ c0
          clear hB hM hAct
          go_wp2_with fail
          refine (print_any (B := B) HS.out a (.slice p1 a.bytes.length n1) (.slice p2 a.marks.length n2) wr (hG.fr0 hF.out) ok HV.out).mono ?_
          rintro e w2 ⟨s, hL, hcase, hf2⟩
          have LS := Lib.hid hL; have F2 := Lib.hid (hF.out.trans hf2); have FS := Lib.hid hf2
          clear hL hf2
          rcases hcase with ⟨g1, g2, rfl⟩ | ⟨_, rfl⟩
          · have G1 := Lib.hid g1; have G2 := Lib.hid g2
            clear g1 g2
            go_wp2_with fail
            refine (num_id _ _).mono ?_
            rintro e w3 ⟨rfl, rfl⟩
            go_wp2_with fail
            refine (parse_any (B := B) s w2 (hG.fr0 F2.out) (Nat.le_trans (LS.out.bound ok) (by decide))).mono ?_
            rintro e w3 ⟨vb', vm', rfl, ob, om, hf3⟩
            rw [G2.out] at ob om
            rw [G1.out, G2.out]
            obtain ⟨q1, m1, rfl⟩ := own_slice ob
            obtain ⟨q2, m2, rfl⟩ := own_slice om
            have V3 : Hid (ActV w3 a (.agg (actCells a (.slice q1 a.bytes.length m1) (.slice q2 a.marks.length m2)))) := Lib.hid (ActV.of_own ob om)
            have F3 := Lib.hid (F2.out.trans hf3); have FS3 := Lib.hid (FS.out.trans hf3)
            clear ob om hf3
            unfold actCells
            go_upto_region 11 with fail
            change Code.wp _ _ _ _ (w3.alloc (.cells (actCells a (.slice q1 a.bytes.length m1) (.slice q2 a.marks.length m2)) 35))
            have hB : (w3.alloc (.cells (actCells a (.slice q1 a.bytes.length m1) (.slice q2 a.marks.length m2)) 35)).heap[w3.heap.size]? = some (.cells (actCells a (.slice q1 a.bytes.length m1) (.slice q2 a.marks.length m2)) 35) := alloc_heap_new _ _
            have hF4 : Fr [] w3 (w3.alloc (.cells (actCells a (.slice q1 a.bytes.length m1) (.slice q2 a.marks.length m2)) 35)) := (Fr.refl [] w3).alloc _
            generalize w3.alloc (.cells (actCells a (.slice q1 a.bytes.length m1) (.slice q2 a.marks.length m2)) 35) = w4 at *
            obtain ⟨g0, g1, g2, g3, g4, g5, g6, g7, g8, g9⟩ := act_cells hB
            have V4 : Hid (ActV w4 a (.agg (actCells a (.slice q1 a.bytes.length m1) (.slice q2 a.marks.length m2)))) := Lib.hid (V3.out.fr0 hF4)
            have FS4 : Hid (Fr [] wr w4) := Lib.hid (FS3.out.trans hF4)
            have F4 : Hid (Fr [] w w4) := Lib.hid (F3.out.trans hF4)
            have V4' : Hid (ActV w4 a (.agg (actCells a (.slice p1 a.bytes.length n1) (.slice p2 a.marks.length n2)))) := Lib.hid (HV.out.fr0 FS4.out)
            replace c0 := FS4.out.cell0 c0; replace c1 := FS4.out.cell0 c1; replace c2 := FS4.out.cell0 c2; replace c3 := FS4.out.cell0 c3; replace c4 := FS4.out.cell0 c4; replace c5 := FS4.out.cell0 c5; replace c6 := FS4.out.cell0 c6; replace c7 := FS4.out.cell0 c7; replace c8 := FS4.out.cell0 c8; replace c9 := FS4.out.cell0 c9
            have hb4 := World.block_lt_of_cell? w4 _ c0
            clear hF4 hB hb
            go_cut [64] (fun c wx => c = .bool false ∧ Hid (Fr [] w wx))
            case first =>
              go_region_with (first | (go_at_call 8; refine (num_id _ _).mono ?_; rintro e w5 ⟨rfl, rfl⟩) | (go_at_call 10; refine (HS.out a a _ _ _ _ _ ok ok (by first | exact V4.out | exact V4.out.fr0 ((Fr.refl [] w4).drew)) (by first | exact V4'.out | exact V4'.out.fr0 ((Fr.refl [] w4).drew))).mono ?_; rintro e w5 ⟨r, rfl, hr, hf5⟩; obtain rfl : r = true := hr.2 rfl))
              all_goals
                go_wp2_with fail
                go_meet
                exact ⟨rfl, Lib.hid (by first | exact F4.out.trans hf5 | exact F4.out.drew.trans hf5)⟩
            case rest =>
              obtain ⟨rfl, hFc⟩ := hcut
              clear g0 g1 g2 g3 g4 g5 g6 g7 g8 g9 c0 c1 c2 c3 c4 c5 c6 c7 c8 c9 hb4
              go_wp2_with fail
              have hK := hFc.out.size
              go_loopw [5, 11] (fun t j wr => IRel x ps wc t j wr) (fun _ j _ => 4 - (RowKit.intOf j).toNat)
              case atStart => exact ⟨0, x, by omega, rfl, rfl, Lib.hid (by rw [hT.out.eq]; simp), by omega, rfl⟩
              case round =>
                obtain ⟨m, y, hm, rfl, rfl, hy, hys, rfl⟩ := hrel
                have hxs := hT.out.size
                have hss := LS.out.bound ok
                have cc1 : (9223372036854775807 < y.size + 1) = False := eq_false (by omega)
                have cc2 : (9223372036854775807 < y.size + s.size) = False := eq_false (by omega)
                have cc3 : (9223372036854775807 < y.size + s.size + 1) = False := eq_false (by omega)
                have HN : Hid (TxtAt l (k + 1) (y ++ s ++ (⟨#[10]⟩ : ByteArray)) ((ps ++ List.replicate m ⟨#[]⟩) ++ [s])) := Lib.hid (hT.out.next hm hy.out hys G1.out G2.out HTK.out hss)
                clear hxs hss
                by_cases hke : k < es.length
                · obtain ⟨b2, off2, rfl, hce⟩ := HE.out k (by simpa using hke)
                  replace hce := hFc.out.cell0 hce
                  rw [List.getElem_map] at hce
                  unfold u8v at hce
                  have hE4 : es[k] < 256 := HES.out _ (List.getElem_mem hke)
                  generalize es[k] = ek at *
                  go_wp2_with fail
                  · go_roundw
                    case rel => exact ⟨m + 1, y ++ (⟨#[10]⟩ : ByteArray), by omega, by go_num, rfl, Lib.hid (by rw [hy.out, txt_rep]), by rw [ByteArray.size_append]; show y.size + 1 ≤ _; omega, rfl⟩
                    case measure => simp [RowKit.intOf]; omega
                  · go_roundw
                    case rel => exact ⟨k + 1, _, _, by omega, by go_num, rfl, HN, hFc⟩
                    case measure => simp [RowKit.intOf]; omega
                · go_wp2_with fail
                  go_roundw
                  case rel => exact ⟨k + 1, _, _, by omega, by go_num, rfl, HN, hFc⟩
                  case measure => simp [RowKit.intOf]; omega
          · go_wp2_with fail
            refine (num_id _ _).mono ?_
            rintro e w3 ⟨rfl, rfl⟩
            go_wp2_with fail
            refine (num_id _ _).mono ?_
            rintro e w3 ⟨rfl, rfl⟩
            go_wp2_with fail
            refine (works_any (B := B) HS.out w2 (hG.fr0 F2.out)).mono ?_
            rintro e w3 ⟨rfl, hf3⟩
            have F3 := Lib.hid (F2.out.trans hf3); clear hf3
            go_wp2_with fail
            go_ret
            exact ⟨rfl, F3.out⟩
        · have hke : k = l.length := by omega
          subst hke
          have hT' := hT.out
          rw [hT'.eq]
          have hrl := len_txt ps hT'.nonl
          have hfl : (full ps).length = l.length := by have := congrArg List.length hT'.acts; simpa using this
          have hac : (full ps).map parseA = l := by rw [hT'.acts, List.take_length]
          have hsz : (txt ps).size ≤ 65536 := by rw [← hT'.eq]; have := hT'.size; omega
          have HRD : ∀ (e : Ending) (w' : World), RdPost (txt ps) wr e w' → ∃ v, e = .returned (.tuple #[v, .int .i64 0, .int .i64 0]) ∧ ActsAt w' v l ∧ Fr [] wr w' := fun e w' h => by
            have := read_txt hT'.nonl hT'.each hT'.good h
            rwa [hac] at this
          have HRD' := Lib.hid HRD
          clear HRD hac
          generalize txt ps = tx at *
          clear hT'
          go_wp2_with fail
          refine (read_any (B := B) tx wr (hG.fr0 hF.out) hsz (by omega)).mono ?_
          intro e w2 hP
          obtain ⟨v, rfl, hv, hf2⟩ := HRD'.out _ _ hP
          obtain ⟨mo, mcap, rfl, hm⟩ := hv.slice
          have HMV := Lib.hid hm; have F2 := Lib.hid (hF.out.trans hf2)
          clear hv hm hP hf2
          go_wp2_with fail
          refine (num_id _ _).mono ?_
          rintro e w3 ⟨rfl, rfl⟩
          go_wp2_with fail
          go_loopw [15] (fun i wx => ∃ j : Nat, j ≤ l.length ∧ i = .int .i64 (j : Int) ∧ Hid (Fr [] w2 wx)) (fun i _ => l.length - (RowKit.intOf i).toNat)
          case atStart => exact ⟨0, by omega, rfl, Lib.hid (Fr.refl _ _)⟩
          case round =>
            obtain ⟨j, hj, rfl, hFz⟩ := hrel
            by_cases hlt2 : j < l.length
            · obtain ⟨b, off, rfl, hAct⟩ := HL.out j hlt2
              obtain ⟨b3, off3, rfl, hAct3⟩ := HMV.out j hlt2
              obtain ⟨vb, vm, hB, hM, c0, c1, c2, c3, c4, c5, c6, c7, c8, c9⟩ := hAct.fr0 (F2.out.trans hFz.out)
              obtain ⟨vb3, vm3, hB3, hM3, g0, g1, g2, g3, g4, g5, g6, g7, g8, g9⟩ := hAct3.fr0 hFz.out
              obtain ⟨p1, n1, rfl⟩ := hB.slice
              obtain ⟨p2, n2, rfl⟩ := hM.slice
              obtain ⟨q1, m1, rfl⟩ := hB3.slice
              obtain ⟨q2, m2, rfl⟩ := hM3.slice
              have ok : ActOk l[j] := HI.out _ (List.getElem_mem hlt2) (HF.out _ (List.getElem_mem hlt2))
              have HV : Hid (ActV wr l[j] (.agg (actCells l[j] (.slice p1 (l[j].bytes.map u8v).length n1) (.slice p2 (l[j].marks.map Value.bool).length n2)))) := Lib.hid ⟨_, _, rfl, hB, hM⟩
              have HV3 : Hid (ActV wr l[j] (.agg (actCells l[j] (.slice q1 (l[j].bytes.map u8v).length m1) (.slice q2 (l[j].marks.map Value.bool).length m2)))) := Lib.hid ⟨_, _, rfl, hB3, hM3⟩
              rw [List.length_map] at c8 c9 g8 g9
              rw [List.length_map, List.length_map] at HV HV3
              generalize l[j] = a at *
              have hb1 := World.block_lt_of_cell? wr _ c0
              have hb3 := World.block_lt_of_cell? wr _ g0
              clear hB hM hB3 hM3 hAct hAct3
              go_wp2_with fail
              go_cut [122] (fun c wx => c = .bool false ∧ Hid (Fr [] w2 wx))
              case first =>
                go_region_with (go_at_call 10; refine (HS.out a a _ _ _ _ _ ok ok (by first | exact HV3.out | exact HV3.out.fr0 ((Fr.refl [] wr).drew)) (by first | exact HV.out | exact HV.out.fr0 ((Fr.refl [] wr).drew))).mono ?_; rintro e w5 ⟨r, rfl, hr, hf5⟩; obtain rfl : r = true := hr.2 rfl)
                all_goals
                  go_wp2_with fail
                  go_meet
                  exact ⟨rfl, Lib.hid (by first | exact hFz.out.trans hf5 | exact hFz.out.drew.trans hf5)⟩
              case rest =>
                obtain ⟨rfl, hFc⟩ := hcut
                go_wp2_with fail
                go_roundw
                case rel => exact ⟨j + 1, by omega, by go_num, hFc⟩
                case measure => simp [RowKit.intOf]; omega
            · go_wp2_with fail
              refine (works_any (B := B) HS.out wr (hG.fr0 (F2.out.trans hFz.out))).mono ?_
              rintro e w5 ⟨rfl, hf5⟩
              have F5 := Lib.hid ((F2.out.trans hFz.out).trans hf5); clear hf5
              go_wp2_with fail
              go_ret
              exact ⟨rfl, F5.out⟩
end Go.Proofs.YtnldlakcopbpcaaGreatDoor
