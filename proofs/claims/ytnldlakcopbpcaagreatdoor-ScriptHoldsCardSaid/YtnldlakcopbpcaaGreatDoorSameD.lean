/- Contract: script.Same where test 3 is the first that fails (printed by gen_same.py). -/
import Derived.Test.YtnldlakcopbpcaaGreatDoorSame0
namespace Go.Proofs.YtnldlakcopbpcaaGreatDoor
open Go.RowKit Go.Lib
set_option maxRecDepth 100000 in
set_option maxHeartbeats 8000000 in
theorem same_3 (a a' : ActD) (vb vm vb' vm' : Value) (w : World) (ok : ActOk a) (ok' : ActOk a') (hV : ActV w a (.agg (actCells a vb vm))) (hV' : ActV w a' (.agg (actCells a' vb' vm'))) (h0 : a.kind = a'.kind) (h1 : a.thread = a'.thread) (h2 : a.n = a'.n) (h3 : ¬ a.marks = a'.marks) :
    Calls Tryz.prog 10 #[.agg (actCells a vb vm), .agg (actCells a' vb' vm')] w (SamePost a a' w) := by
  have H0 := Lib.hid h0; clear h0
  have H1 := Lib.hid h1; clear h1
  have H2 := Lib.hid h2; clear h2
  have H3 := Lib.hid h3; clear h3
  obtain ⟨_, _, e, hB, hM⟩ := hV
  obtain ⟨rfl, rfl⟩ : vb = _ ∧ vm = _ := by simpa [actCells] using e
  obtain ⟨_, _, e, hB', hM'⟩ := hV'
  obtain ⟨rfl, rfl⟩ : vb' = _ ∧ vm' = _ := by simpa [actCells] using e
  obtain ⟨ao, cap, hvb⟩ := hB.slice
  obtain ⟨ao', cap', hvb'⟩ := hB'.slice
  rw [List.length_map] at hvb hvb'
  subst hvb hvb'
  have hA0 : ((w.alloc (.cells (actCells a (.slice ao a.bytes.length cap) vm) 35)).alloc (.cells (actCells a' (.slice ao' a'.bytes.length cap') vm') 35)).heap[w.heap.size]? = some (.cells (actCells a (.slice ao a.bytes.length cap) vm) 35) := heap_later (alloc_heap_new _ _)
  have hA1 : ((w.alloc (.cells (actCells a (.slice ao a.bytes.length cap) vm) 35)).alloc (.cells (actCells a' (.slice ao' a'.bytes.length cap') vm') 35)).heap[w.heap.size + 1]? = some (.cells (actCells a' (.slice ao' a'.bytes.length cap') vm') 35) := by
    have := alloc_heap_new (w.alloc (.cells (actCells a (.slice ao a.bytes.length cap) vm) 35)) (.cells (actCells a' (.slice ao' a'.bytes.length cap') vm') 35)
    rwa [World.size_alloc] at this
  have hF0 : Fr [] w ((w.alloc (.cells (actCells a (.slice ao a.bytes.length cap) vm) 35)).alloc (.cells (actCells a' (.slice ao' a'.bytes.length cap') vm') 35)) := ((Fr.refl [] w).alloc _).alloc _
  go_enter Tryz.func10, Tryz.ntmps10
  go_upto_region 1 with fail
  generalize (w.alloc (.cells (actCells a (.slice ao a.bytes.length cap) vm) 35)).alloc (.cells (actCells a' (.slice ao' a'.bytes.length cap') vm') 35) = wp at *
  obtain ⟨d0, d1, d2, d3, d4, d5, d6, d7, d8, d9⟩ := act_cells hA0
  obtain ⟨g0, g1, g2, g3, g4, g5, g6, g7, g8, g9⟩ := act_cells hA1
  have A0 := Lib.hid hA0; have A1 := Lib.hid hA1; have F0 := Lib.hid hF0; have HB := Lib.hid hB; have HM := Lib.hid hM; have HB' := Lib.hid hB'; have HM' := Lib.hid hM'; clear hA0 hA1 hF0 hB hM hB' hM'
  go_cut [5, 6] (fun s5 s6 wx => SCut a a' (.slice ao a.bytes.length cap) (.slice ao' a'.bytes.length cap') (actCells a (.slice ao a.bytes.length cap) vm) (actCells a' (.slice ao' a'.bytes.length cap') vm') w s5 s6 wx)
  case first =>
    have b0 := World.block_lt_of_cell? wp _ d0
    have b1 := World.block_lt_of_cell? wp _ g0
    go_region
    all_goals
      go_wp2_with fail
      go_meet
      first
      | exact scut1 F0.out A0.out A1.out
      | exact scut2 F0.out A0.out A1.out
  case rest =>
    obtain ⟨p, q, rfl, rfl, hX, hY, hA, hA', hF⟩ := hcut
    obtain ⟨k0, k1, k2, k3, k4, k5⟩ := op_cells hX.out
    obtain ⟨l0, l1, l2, l3, l4, l5⟩ := op_cells hY.out
    clear d0 d1 d2 d3 d4 d5 d6 d7 d8 d9 g0 g1 g2 g3 g4 g5 g6 g7 g8 g9
    obtain ⟨d0, d1, d2, d3, d4, d5, d6, d7, d8, d9⟩ := act_cells hA.out
    obtain ⟨g0, g1, g2, g3, g4, g5, g6, g7, g8, g9⟩ := act_cells hA'.out
    have q0 : (a.kind == a'.kind) = true := by rw [H0.out]; simp
    have q1 : (a.thread == a'.thread) = true := by rw [H1.out]; simp
    have q2 : (a.n == a'.n) = true := by rw [H2.out]; simp
    go_upto_region 2 with fail
    go_quiet (first | (go_at_call 19; exact eqb_q HM.out HM'.out ok.mlen ok'.mlen hF.out (decide_eq_false H3.out)))
    go_wp2_with fail
    go_ret
    exact ⟨false, rfl, ⟨fun h => (by cases h), fun e => absurd (by rw [e]) H3.out⟩, hF.out.drewN _⟩
end Go.Proofs.YtnldlakcopbpcaaGreatDoor
