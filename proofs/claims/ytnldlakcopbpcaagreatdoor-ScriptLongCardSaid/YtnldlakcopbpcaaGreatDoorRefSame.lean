/- Contract: the reference's Same, where the two acts are the same. -/
import Derived.Test.YtnldlakcopbpcaaGreatDoorActOk
import Derived.Test.YtnldlakcopbpcaaGreatDoorSame0
import Derived.Laws.BytesArg
namespace Go.Proofs.YtnldlakcopbpcaaGreatDoor
open Go.RowKit Go.Lib

def strN (ns : List Nat) : ByteArray := strOfNums (ns.map fun (n : Nat) => (n : Int))

theorem conv_row (ns : List Nat) (v : Value) (W : World) (h : RowAt W v (ns.map u8v)) : (convert 23 9 v).run Tryz.prog W = .ok (.string (strN ns)) W := by
  have key : ∀ (b off cap : Nat), (∀ i (h : i < ns.length), W.cell? ⟨b, off + i, none⟩ = some (.int .u8 (ns[i] : Int))) → (convert 23 9 (.slice (some ⟨b, off, none⟩) ns.length cap)).run Tryz.prog W = .ok (.string (strN ns)) W := fun b off cap hc =>
    run_convert_bytes_arg W 23 5 Tryz.underlying23 Tryz.underlying5 b off ns.length cap (ns.map fun (n : Nat) => (n : Int)) (by simp) (fun i hi => by rw [hc i hi]; simp [List.getD, List.getElem?_eq_getElem hi]) 9 Tryz.underlying9
  rcases h with ⟨h0, ao, cap, rfl⟩ | ⟨b, off, cap, rfl, hc⟩
  · have hn : ns = [] := by simpa using h0
    subst hn
    cases ao with
    | none => exact run_convert_bytes_nil W 23 5 Tryz.underlying23 Tryz.underlying5 0 cap 9 Tryz.underlying9
    | some p =>
      obtain ⟨b, off, lim⟩ := p
      exact run_convert_bytes_back W 23 9 5 ⟨b, off, lim⟩ cap [] Tryz.underlying23 Tryz.underlying5 Tryz.underlying9 (fun j hj => by simp at hj)
  · rw [List.length_map]
    exact key b off cap (fun i hi => by have := hc i (by simpa using hi); rw [List.getElem_map] at this; exact this)

set_option maxRecDepth 100000 in
set_option maxHeartbeats 4000000 in
theorem sameop_any (a : ActD) (vb vb' : Value) (w : World) (hb : RowAt w vb (a.bytes.map u8v)) (hb' : RowAt w vb' (a.bytes.map u8v)) :
    Calls Tryz.prog 35 #[.agg (opCells a vb), .agg (opCells a vb')] w fun e w' => e = .returned (.bool true) ∧ Fr [] w w' := by
  have hA0 : ((w.alloc (.cells (opCells a vb) 32)).alloc (.cells (opCells a vb') 32)).heap[w.heap.size]? = some (.cells (opCells a vb) 32) := heap_later (alloc_heap_new _ _)
  have hA1 : ((w.alloc (.cells (opCells a vb) 32)).alloc (.cells (opCells a vb') 32)).heap[w.heap.size + 1]? = some (.cells (opCells a vb') 32) := by
    have := alloc_heap_new (w.alloc (.cells (opCells a vb) 32)) (.cells (opCells a vb') 32)
    rwa [World.size_alloc] at this
  have hF0 : Fr [] w ((w.alloc (.cells (opCells a vb) 32)).alloc (.cells (opCells a vb') 32)) := ((Fr.refl [] w).alloc _).alloc _
  go_enter Tryz.func35, Tryz.ntmps35
  go_upto_region 1 with fail
  generalize (w.alloc (.cells (opCells a vb) 32)).alloc (.cells (opCells a vb') 32) = wp at *
  obtain ⟨d0, d1, d2, d3, d4, d5⟩ := op_cells hA0
  obtain ⟨g0, g1, g2, g3, g4, g5⟩ := op_cells hA1
  have c1 := conv_row a.bytes vb wp (hb.fr0 hF0)
  have c2 := conv_row a.bytes vb' wp (hb'.fr0 hF0)
  have F0 := Lib.hid hF0; clear hF0 hA0 hA1 hb hb'
  have q0 : (a.opk == a.opk) = true := by simp
  have q1 : (a.path.toList == a.path.toList) = true := by simp
  have q2 : (a.dest.toList == a.dest.toList) = true := by simp
  have q3 : (a.at_ == a.at_) = true := by simp
  have q4 : (a.opn == a.opn) = true := by simp
  have q5 : ((strN a.bytes).toList == (strN a.bytes).toList) = true := by simp
  go_wp2_with fail
  go_ret
  exact ⟨rfl, F0.out⟩

def RRel (n : Nat) (w : World) (i : Value) (wr : World) : Prop := ∃ k : Nat, k ≤ n ∧ i = .int .i64 (k : Int) ∧ Hid (Fr [] w wr)

theorem row_cells {w : World} {v : Value} {xs : List Value} (h : RowAt w v xs) (hx : xs ≠ []) : ∃ b off cap, v = .slice (some ⟨b, off, none⟩) xs.length cap ∧ ∀ i (h : i < xs.length), w.cell? ⟨b, off + i, none⟩ = some xs[i] := by
  rcases h with ⟨h, _⟩ | h
  · exact absurd h hx
  · exact h

set_option maxRecDepth 100000 in
set_option maxHeartbeats 8000000 in
theorem refsame_any (a : ActD) (vb vm vb' vm' : Value) (w : World) (ok : ActOk a) (hV : ActV w a (.agg (actCells a vb vm))) (hV' : ActV w a (.agg (actCells a vb' vm'))) :
    Calls Tryz.prog 23 #[.agg (actCells a vb vm), .agg (actCells a vb' vm')] w fun e w' => e = .returned (.bool true) ∧ Fr [] w w' := by
  obtain ⟨_, _, e, hB, hM⟩ := hV
  obtain ⟨rfl, rfl⟩ : vb = _ ∧ vm = _ := by simpa [actCells] using e
  obtain ⟨_, _, e, hB', hM'⟩ := hV'
  obtain ⟨rfl, rfl⟩ : vb' = _ ∧ vm' = _ := by simpa [actCells] using e
  obtain ⟨ao, cap, hvm⟩ := hM.slice
  obtain ⟨ao', cap', hvm'⟩ := hM'.slice
  rw [List.length_map] at hvm hvm'
  subst hvm hvm'
  have hA0 : ((w.alloc (.cells (actCells a vb (.slice ao a.marks.length cap)) 35)).alloc (.cells (actCells a vb' (.slice ao' a.marks.length cap')) 35)).heap[w.heap.size]? = some (.cells (actCells a vb (.slice ao a.marks.length cap)) 35) := heap_later (alloc_heap_new _ _)
  have hA1 : ((w.alloc (.cells (actCells a vb (.slice ao a.marks.length cap)) 35)).alloc (.cells (actCells a vb' (.slice ao' a.marks.length cap')) 35)).heap[w.heap.size + 1]? = some (.cells (actCells a vb' (.slice ao' a.marks.length cap')) 35) := by
    have := alloc_heap_new (w.alloc (.cells (actCells a vb (.slice ao a.marks.length cap)) 35)) (.cells (actCells a vb' (.slice ao' a.marks.length cap')) 35)
    rwa [World.size_alloc] at this
  have hF0 : Fr [] w ((w.alloc (.cells (actCells a vb (.slice ao a.marks.length cap)) 35)).alloc (.cells (actCells a vb' (.slice ao' a.marks.length cap')) 35)) := ((Fr.refl [] w).alloc _).alloc _
  go_enter Tryz.func23, Tryz.ntmps23
  go_upto_region 1 with fail
  generalize (w.alloc (.cells (actCells a vb (.slice ao a.marks.length cap)) 35)).alloc (.cells (actCells a vb' (.slice ao' a.marks.length cap')) 35) = wp at *
  obtain ⟨d0, d1, d2, d3, d4, d5, d6, d7, d8, d9⟩ := act_cells hA0
  obtain ⟨g0, g1, g2, g3, g4, g5, g6, g7, g8, g9⟩ := act_cells hA1
  have A0 := Lib.hid hA0; have A1 := Lib.hid hA1; have F0 := Lib.hid hF0; have HB := Lib.hid hB; have HM := Lib.hid hM; have HB' := Lib.hid hB'; have HM' := Lib.hid hM'; clear hA0 hA1 hF0 hB hM hB' hM'
  have q0 : (a.kind == a.kind) = true := by simp
  have q1 : (a.thread == a.thread) = true := by simp
  have q2 : (a.n == a.n) = true := by simp
  have q3 : ((a.marks.length : Int) == (a.marks.length : Int)) = true := by simp
  have hml := ok.mlen
  go_wp2_with fail
  refine (sameop_any a vb vb' wp (HB.out.fr0 F0.out) (HB'.out.fr0 F0.out)).mono ?_
  rintro e w1 ⟨rfl, hf1⟩
  have F1 : Hid (Fr [] w w1) := Lib.hid (F0.out.trans hf1)
  have hA0 := hf1.heap A0.out (by simp)
  have hA1 := hf1.heap A1.out (by simp)
  clear d0 d1 d2 d3 d4 d5 d6 d7 d8 d9 g0 g1 g2 g3 g4 g5 g6 g7 g8 g9 hf1
  obtain ⟨d0, d1, d2, d3, d4, d5, d6, d7, d8, d9⟩ := act_cells hA0
  obtain ⟨g0, g1, g2, g3, g4, g5, g6, g7, g8, g9⟩ := act_cells hA1
  have B0 := Lib.hid hA0; have B1 := Lib.hid hA1; clear hA0 hA1
  go_wp2_with fail
  clear d0 d1 d2 d3 d4 d5 d6 d7 d8 d9 g0 g1 g2 g3 g4 g5 g6 g7 g8 g9
  go_loopw [5] (fun i wr => RRel a.marks.length w1 i wr) (fun i _ => a.marks.length - (RowKit.intOf i).toNat)
  case atStart => exact ⟨0, by omega, rfl, Lib.hid (Fr.refl _ _)⟩
  case round =>
    obtain ⟨k, hk, rfl, hF⟩ := hrel
    obtain ⟨d0, d1, d2, d3, d4, d5, d6, d7, d8, d9⟩ := act_cells (hF.out.heap B0.out (by simp))
    obtain ⟨g0, g1, g2, g3, g4, g5, g6, g7, g8, g9⟩ := act_cells (hF.out.heap B1.out (by simp))
    clear d0 d1 d2 d3 d4 d5 d6 d7 d8 g0 g1 g2 g3 g4 g5 g6 g7 g8
    by_cases hlt : k < a.marks.length
    · have hne : a.marks.map Value.bool ≠ [] := by intro h; have := congrArg List.length h; simp at this; rw [this] at hlt; simp at hlt
      obtain ⟨b, off, c, e1, hc⟩ := row_cells (HM.out.fr0 (F1.out.trans hF.out)) hne
      obtain ⟨b', off', c', e2, hc'⟩ := row_cells (HM'.out.fr0 (F1.out.trans hF.out)) hne
      have e1' : ao = some ⟨b, off, none⟩ := (Value.slice.inj e1).1
      have e2' : ao' = some ⟨b', off', none⟩ := (Value.slice.inj e2).1
      subst e1' e2'
      have c1 : wr.cell? ⟨b, off + k, none⟩ = some (.bool (a.marks[k])) := by have := hc k (by simpa using hlt); rw [List.getElem_map] at this; exact this
      have c2 : wr.cell? ⟨b', off' + k, none⟩ = some (.bool (a.marks[k])) := by have := hc' k (by simpa using hlt); rw [List.getElem_map] at this; exact this
      clear e1 e2 hc hc' hne
      generalize a.marks[k] = x at *
      have qx : (x == x) = true := by simp
      go_wp2_with fail
      go_region
      all_goals go_wp2_with fail
      all_goals go_roundw
      case rel => exact ⟨k + 1, by omega, by go_num, Lib.hid (by first | exact hF.out.drew | exact hF.out)⟩
      case measure => simp [RowKit.intOf]; omega
    · go_wp2_with fail
      go_ret
      exact ⟨rfl, F1.out.trans hF.out⟩
end Go.Proofs.YtnldlakcopbpcaaGreatDoor
