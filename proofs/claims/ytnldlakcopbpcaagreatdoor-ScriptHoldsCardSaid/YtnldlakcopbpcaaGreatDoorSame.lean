/- Contract: script.Same: which acts are the same (printed by gen_same2.py). -/
import Derived.Test.YtnldlakcopbpcaaGreatDoorSame0
namespace Go.Proofs.YtnldlakcopbpcaaGreatDoor
open Go.RowKit Go.Lib
set_option maxRecDepth 100000 in
set_option maxHeartbeats 8000000 in
theorem same_any (a a' : ActD) (vb vm vb' vm' : Value) (w : World) (ok : ActOk a) (ok' : ActOk a') (hV : ActV w a (.agg (actCells a vb vm))) (hV' : ActV w a' (.agg (actCells a' vb' vm'))) :
    Calls Tryz.prog 10 #[.agg (actCells a vb vm), .agg (actCells a' vb' vm')] w (SamePost a a' w) := by
  obtain ⟨_, _, e, hB, hM⟩ := hV
  obtain ⟨rfl, rfl⟩ : vb = _ ∧ vm = _ := by simpa [actCells] using e
  obtain ⟨_, _, e, hB', hM'⟩ := hV'
  obtain ⟨rfl, rfl⟩ : vb' = _ ∧ vm' = _ := by simpa [actCells] using e
  obtain ⟨ao, cap, hvb⟩ := hB.slice
  obtain ⟨ao', cap', hvb'⟩ := hB'.slice
  rw [List.length_map] at hvb hvb'
  subst hvb hvb'
  have hA0 : ((w.alloc (.cells (actCells a (.slice ao a.bytes.length cap) vm) 35)).alloc (.cells (actCells a' (.slice ao' a'.bytes.length cap') vm') 35)).heap[w.heap.size]? = some (.cells (actCells a (.slice ao a.bytes.length cap) vm) 35) := heap_later (alloc_heap_new _ _)
  have hA1 : ((w.alloc (.cells (actCells a (.slice ao a.bytes.length cap) vm) 35)).alloc (.cells (actCells a' (.slice ao' a'.bytes.length cap') vm') 35)).heap[w.heap.size + 1]? = some (.cells (actCells a' (.slice ao' a'.bytes.length cap') vm') 35) := by
    have := alloc_heap_new (w.alloc (.cells (actCells a (.slice ao a.bytes.length cap) vm) 35)) (.cells (actCells a' (.slice ao' a'.bytes.length cap') vm') 35)
    rwa [World.size_alloc] at this
  have hF0 : Fr [] w ((w.alloc (.cells (actCells a (.slice ao a.bytes.length cap) vm) 35)).alloc (.cells (actCells a' (.slice ao' a'.bytes.length cap') vm') 35)) := ((Fr.refl [] w).alloc _).alloc _
  go_enter Tryz.func10, Tryz.ntmps10
  go_upto_region 1 with fail
  generalize (w.alloc (.cells (actCells a (.slice ao a.bytes.length cap) vm) 35)).alloc (.cells (actCells a' (.slice ao' a'.bytes.length cap') vm') 35) = wp at *
  obtain ⟨d0, d1, d2, d3, d4, d5, d6, d7, d8, d9⟩ := act_cells hA0
  obtain ⟨g0, g1, g2, g3, g4, g5, g6, g7, g8, g9⟩ := act_cells hA1
  have A0 := Lib.hid hA0; have A1 := Lib.hid hA1; have F0 := Lib.hid hF0; have HB := Lib.hid hB; have HM := Lib.hid hM; have HB' := Lib.hid hB'; have HM' := Lib.hid hM'; clear hA0 hA1 hF0 hB hM hB' hM'
  go_cut [5, 6] (fun s5 s6 wx => SCut a a' (.slice ao a.bytes.length cap) (.slice ao' a'.bytes.length cap') (actCells a (.slice ao a.bytes.length cap) vm) (actCells a' (.slice ao' a'.bytes.length cap') vm') w s5 s6 wx)
  case first =>
    have b0 := World.block_lt_of_cell? wp _ d0
    have b1 := World.block_lt_of_cell? wp _ g0
    go_region
    all_goals
      go_wp2_with fail
      go_meet
      first
      | exact scut1 F0.out A0.out A1.out
      | exact scut2 F0.out A0.out A1.out
  case rest =>
    obtain ⟨p, q, rfl, rfl, hX, hY, hA, hA', hF⟩ := hcut
    obtain ⟨k0, k1, k2, k3, k4, k5⟩ := op_cells hX.out
    obtain ⟨l0, l1, l2, l3, l4, l5⟩ := op_cells hY.out
    clear d0 d1 d2 d3 d4 d5 d6 d7 d8 d9 g0 g1 g2 g3 g4 g5 g6 g7 g8 g9
    obtain ⟨d0, d1, d2, d3, d4, d5, d6, d7, d8, d9⟩ := act_cells hA.out
    obtain ⟨g0, g1, g2, g3, g4, g5, g6, g7, g8, g9⟩ := act_cells hA'.out
    go_upto_region 2 with fail
    dsimp only [List.append]
    refine wp_region_quiet_lit (by kernel_rfl) (by kernel_rfl) ?_
    by_cases h0 : a.kind = a'.kind
    case neg =>
      have H0 := Lib.hid h0; clear h0
      have q0 : (a.kind == a'.kind) = false := beq_eq_false_iff_ne.2 H0.out
      repeat (go_big_quiet_step (fail))
      refine wpQuiet_nil ?_
      intro _ hw'
      obtain ⟨nq, hw''⟩ := hw'
      subst hw''
      go_wp2_with fail
      go_ret
      exact ⟨false, rfl, ⟨fun h => (by cases h), fun e => absurd (by rw [e]) H0.out⟩, hF.out.drewN _⟩
    have H0 := Lib.hid h0; clear h0
    have q0 : (a.kind == a'.kind) = true := by rw [H0.out]; simp
    by_cases h1 : a.thread = a'.thread
    case neg =>
      have H1 := Lib.hid h1; clear h1
      have q1 : (a.thread == a'.thread) = false := beq_eq_false_iff_ne.2 H1.out
      repeat (go_big_quiet_step (fail))
      refine wpQuiet_nil ?_
      intro _ hw'
      obtain ⟨nq, hw''⟩ := hw'
      subst hw''
      go_wp2_with fail
      go_ret
      exact ⟨false, rfl, ⟨fun h => (by cases h), fun e => absurd (by rw [e]) H1.out⟩, hF.out.drewN _⟩
    have H1 := Lib.hid h1; clear h1
    have q1 : (a.thread == a'.thread) = true := by rw [H1.out]; simp
    by_cases h2 : a.n = a'.n
    case neg =>
      have H2 := Lib.hid h2; clear h2
      have q2 : (a.n == a'.n) = false := beq_eq_false_iff_ne.2 H2.out
      repeat (go_big_quiet_step (fail))
      refine wpQuiet_nil ?_
      intro _ hw'
      obtain ⟨nq, hw''⟩ := hw'
      subst hw''
      go_wp2_with fail
      go_ret
      exact ⟨false, rfl, ⟨fun h => (by cases h), fun e => absurd (by rw [e]) H2.out⟩, hF.out.drewN _⟩
    have H2 := Lib.hid h2; clear h2
    have q2 : (a.n == a'.n) = true := by rw [H2.out]; simp
    by_cases h3 : a.marks = a'.marks
    case neg =>
      have H3 := Lib.hid h3; clear h3
      repeat (go_big_quiet_step (first | (go_at_call 19; exact eqb_q HM.out HM'.out ok.mlen ok'.mlen hF.out (decide_eq_false H3.out))))
      refine wpQuiet_nil ?_
      intro _ hw'
      obtain ⟨nq, hw''⟩ := hw'
      subst hw''
      go_wp2_with fail
      go_ret
      exact ⟨false, rfl, ⟨fun h => (by cases h), fun e => absurd (by rw [e]) H3.out⟩, hF.out.drewN _⟩
    have H3 := Lib.hid h3; clear h3
    by_cases h4 : a.opk = a'.opk
    case neg =>
      have H4 := Lib.hid h4; clear h4
      have q4 : (a.opk == a'.opk) = false := beq_eq_false_iff_ne.2 H4.out
      repeat (go_big_quiet_step (first | (go_at_call 19; exact eqb_q HM.out HM'.out ok.mlen ok'.mlen hF.out (decide_eq_true H3.out))))
      refine wpQuiet_nil ?_
      intro _ hw'
      obtain ⟨nq, hw''⟩ := hw'
      subst hw''
      go_wp2_with fail
      go_ret
      exact ⟨false, rfl, ⟨fun h => (by cases h), fun e => absurd (by rw [e]) H4.out⟩, hF.out.drewN _⟩
    have H4 := Lib.hid h4; clear h4
    have q4 : (a.opk == a'.opk) = true := by rw [H4.out]; simp
    by_cases h5 : a.path = a'.path
    case neg =>
      have H5 := Lib.hid h5; clear h5
      have q5 : (a.path.toList == a'.path.toList) = false := toList_ne H5.out
      repeat (go_big_quiet_step (first | (go_at_call 19; exact eqb_q HM.out HM'.out ok.mlen ok'.mlen hF.out (decide_eq_true H3.out))))
      refine wpQuiet_nil ?_
      intro _ hw'
      obtain ⟨nq, hw''⟩ := hw'
      subst hw''
      go_wp2_with fail
      go_ret
      exact ⟨false, rfl, ⟨fun h => (by cases h), fun e => absurd (by rw [e]) H5.out⟩, hF.out.drewN _⟩
    have H5 := Lib.hid h5; clear h5
    have q5 : (a.path.toList == a'.path.toList) = true := by rw [H5.out]; simp
    by_cases h6 : a.dest = a'.dest
    case neg =>
      have H6 := Lib.hid h6; clear h6
      have q6 : (a.dest.toList == a'.dest.toList) = false := toList_ne H6.out
      repeat (go_big_quiet_step (first | (go_at_call 19; exact eqb_q HM.out HM'.out ok.mlen ok'.mlen hF.out (decide_eq_true H3.out))))
      refine wpQuiet_nil ?_
      intro _ hw'
      obtain ⟨nq, hw''⟩ := hw'
      subst hw''
      go_wp2_with fail
      go_ret
      exact ⟨false, rfl, ⟨fun h => (by cases h), fun e => absurd (by rw [e]) H6.out⟩, hF.out.drewN _⟩
    have H6 := Lib.hid h6; clear h6
    have q6 : (a.dest.toList == a'.dest.toList) = true := by rw [H6.out]; simp
    by_cases h7 : a.at_ = a'.at_
    case neg =>
      have H7 := Lib.hid h7; clear h7
      have q7 : (a.at_ == a'.at_) = false := beq_eq_false_iff_ne.2 H7.out
      repeat (go_big_quiet_step (first | (go_at_call 19; exact eqb_q HM.out HM'.out ok.mlen ok'.mlen hF.out (decide_eq_true H3.out))))
      refine wpQuiet_nil ?_
      intro _ hw'
      obtain ⟨nq, hw''⟩ := hw'
      subst hw''
      go_wp2_with fail
      go_ret
      exact ⟨false, rfl, ⟨fun h => (by cases h), fun e => absurd (by rw [e]) H7.out⟩, hF.out.drewN _⟩
    have H7 := Lib.hid h7; clear h7
    have q7 : (a.at_ == a'.at_) = true := by rw [H7.out]; simp
    by_cases h8 : a.opn = a'.opn
    case neg =>
      have H8 := Lib.hid h8; clear h8
      have q8 : (a.opn == a'.opn) = false := beq_eq_false_iff_ne.2 H8.out
      repeat (go_big_quiet_step (first | (go_at_call 19; exact eqb_q HM.out HM'.out ok.mlen ok'.mlen hF.out (decide_eq_true H3.out))))
      refine wpQuiet_nil ?_
      intro _ hw'
      obtain ⟨nq, hw''⟩ := hw'
      subst hw''
      go_wp2_with fail
      go_ret
      exact ⟨false, rfl, ⟨fun h => (by cases h), fun e => absurd (by rw [e]) H8.out⟩, hF.out.drewN _⟩
    have H8 := Lib.hid h8; clear h8
    have q8 : (a.opn == a'.opn) = true := by rw [H8.out]; simp
    by_cases h9 : a.bytes = a'.bytes
    case neg =>
      have H9 := Lib.hid h9; clear h9
      repeat (go_big_quiet_step (first | (go_at_call 19; exact eqb_q HM.out HM'.out ok.mlen ok'.mlen hF.out (decide_eq_true H3.out)) | (go_at_call 20; exact eqy_q HB.out HB'.out ok.blen ok'.blen hF.out (decide_eq_false H9.out))))
      refine wpQuiet_nil ?_
      intro _ hw'
      obtain ⟨nq, hw''⟩ := hw'
      subst hw''
      go_wp2_with fail
      go_ret
      exact ⟨false, rfl, ⟨fun h => (by cases h), fun e => absurd (by rw [e]) H9.out⟩, hF.out.drewN _⟩
    have H9 := Lib.hid h9; clear h9
    have qa : (asksB a.opk == asksB a'.opk) = true := by rw [H4.out]; simp
    repeat (go_big_quiet_step (first | (go_at_call 19; exact eqb_q HM.out HM'.out ok.mlen ok'.mlen hF.out (decide_eq_true H3.out)) | (go_at_call 20; exact eqy_q HB.out HB'.out ok.blen ok'.blen hF.out (decide_eq_true H9.out)) | (go_at_call 21; exact Calls.quiet_of_same ((asks_any _ _).mono fun _ _ h => ⟨h.1, h.2.symm⟩))))
    refine wpQuiet_nil ?_
    intro _ hw'
    obtain ⟨nq, hw''⟩ := hw'
    subst hw''
    go_wp2_with fail
    go_ret
    exact ⟨true, rfl, ⟨fun _ => act_ext H0.out H1.out H2.out H3.out H4.out H5.out H6.out H7.out H8.out H9.out, fun _ => rfl⟩, hF.out.drewN _⟩
end Go.Proofs.YtnldlakcopbpcaaGreatDoor
