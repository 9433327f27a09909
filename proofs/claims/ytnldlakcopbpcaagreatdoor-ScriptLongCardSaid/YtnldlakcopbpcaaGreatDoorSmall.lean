/- Contracts: num, fails, parses. -/
import Derived.Test.YtnldlakcopbpcaaGreatDoorRefSame
import Derived.Test.YtnldlakcopbpcaaGreatDoorPrint
namespace Go.Proofs.YtnldlakcopbpcaaGreatDoor
open Go.RowKit Go.Lib

set_option maxRecDepth 100000 in
theorem num_id (n : Int) (w : World) : Calls Tryz.prog 8 #[.int .i64 n] w fun e w' => e = .returned (.int .i64 n) ∧ w = w' := by
  go_enter Tryz.func8, Tryz.ntmps8
  go_wp2_with fail
  go_ret
  exact ⟨rfl, rfl⟩

set_option maxRecDepth 100000 in
set_option maxHeartbeats 1000000 in
theorem fails_any {B : Nat} (line : ByteArray) (w : World) (hG : Gl B w) (hs : line.size ≤ 1000000) (h : parseS line = none) : Calls Tryz.prog 14 #[.string line] w fun e w' => e = .returned (.bool true) ∧ Fr [] w w' := by
  have he : parseE line = 380 := by simp [parseE, h]
  have ha : parseA line = {} := by simp [parseA, h]
  have HE := Lib.hid he; have HA := Lib.hid ha; clear he ha h
  go_enter Tryz.func14, Tryz.ntmps14
  go_wp2_with fail
  refine (parse_any (B := B) line w hG hs).mono ?_
  rintro e w1 ⟨vb, vm, rfl, ob, om, hf⟩
  obtain ⟨q1, l1, rfl⟩ := own_slice ob
  obtain ⟨q2, l2, rfl⟩ := own_slice om
  rw [HE.out]
  have F1 := Lib.hid hf; clear hf ob om
  unfold actCells
  go_wp2_with fail
  refine (num_id _ _).mono ?_
  rintro e w2 ⟨rfl, rfl⟩
  go_wp2_with fail
  go_ret
  exact ⟨rfl, F1.out.alloc _⟩

set_option maxRecDepth 100000 in
set_option maxHeartbeats 2000000 in
theorem parses_any {B : Nat} (line : ByteArray) (a : ActD) (vb vm : Value) (w : World) (hG : Gl B w) (hs : line.size ≤ 1000000) (h : parseS line = some a) (hV : ActV w a (.agg (actCells a vb vm))) :
    Calls Tryz.prog 13 #[.string line, .agg (actCells a vb vm)] w fun e w' => e = .returned (.bool true) ∧ Fr [] w w' := by
  have he : parseE line = 0 := by simp [parseE, h]
  have ha : parseA line = a := by simp [parseA, h]
  have ok : ActOk a := parseS_ok h
  have hA0 : (w.alloc (.cells (actCells a vb vm) 35)).heap[w.heap.size]? = some (.cells (actCells a vb vm) 35) := alloc_heap_new _ _
  have hF0 : Fr [] w (w.alloc (.cells (actCells a vb vm) 35)) := (Fr.refl [] w).alloc _
  have HE := Lib.hid he; have HA := Lib.hid ha; have HV := Lib.hid hV; clear he ha h hV
  go_enter Tryz.func13, Tryz.ntmps13
  go_upto_region 1 with fail
  generalize w.alloc (.cells (actCells a vb vm) 35) = wp at *
  have A0 := Lib.hid hA0; have F0 := Lib.hid hF0; clear hA0 hF0
  go_wp2_with fail
  refine (parse_any (B := B) line wp (hG.fr0 F0.out) hs).mono ?_
  rintro e w1 ⟨vb', vm', rfl, ob, om, hf⟩
  rw [HE.out, HA.out] at *
  obtain ⟨q1, l1, rfl⟩ := own_slice ob
  obtain ⟨q2, l2, rfl⟩ := own_slice om
  have V1 : Hid (ActV w1 a (.agg (actCells a (.slice q1 a.bytes.length l1) (.slice q2 a.marks.length l2)))) := Lib.hid (ActV.of_own ob om)
  have A1 := Lib.hid (hf.heap A0.out (by simp))
  have F1 : Hid (Fr [] w w1) := Lib.hid (F0.out.trans hf)
  clear hf ob om
  unfold actCells
  go_upto_region 2 with fail
  change Code.wp _ _ _ _ (w1.alloc (.cells (actCells a (.slice q1 a.bytes.length l1) (.slice q2 a.marks.length l2)) 35))
  have hB : (w1.alloc (.cells (actCells a (.slice q1 a.bytes.length l1) (.slice q2 a.marks.length l2)) 35)).heap[w1.heap.size]? = some (.cells (actCells a (.slice q1 a.bytes.length l1) (.slice q2 a.marks.length l2)) 35) := alloc_heap_new _ _
  have hC : (w1.alloc (.cells (actCells a (.slice q1 a.bytes.length l1) (.slice q2 a.marks.length l2)) 35)).heap[w.heap.size]? = some (.cells (actCells a vb vm) 35) := heap_later A1.out
  have hF2 : Fr [] w1 (w1.alloc (.cells (actCells a (.slice q1 a.bytes.length l1) (.slice q2 a.marks.length l2)) 35)) := (Fr.refl [] w1).alloc _
  generalize w1.alloc (.cells (actCells a (.slice q1 a.bytes.length l1) (.slice q2 a.marks.length l2)) 35) = w2 at *
  obtain ⟨d0, d1, d2, d3, d4, d5, d6, d7, d8, d9⟩ := act_cells hC
  obtain ⟨g0, g1, g2, g3, g4, g5, g6, g7, g8, g9⟩ := act_cells hB
  have F2 := Lib.hid hF2
  clear hF2 hB hC
  go_wp2_with fail
  refine (num_id _ _).mono ?_
  rintro e w3 ⟨rfl, rfl⟩
  go_wp2_with fail
  refine (refsame_any a _ _ vb vm w2 ok (V1.out.fr0 F2.out) (HV.out.fr0 (F1.out.trans F2.out))).mono ?_
  rintro e w4 ⟨rfl, hf4⟩
  have F4 := Lib.hid hf4; clear hf4
  go_wp2_with fail
  go_ret
  exact ⟨rfl, (F1.out.trans F2.out).trans F4.out⟩
end Go.Proofs.YtnldlakcopbpcaaGreatDoor
