/- Contract: Print (given script.Same's). -/
import Derived.Test.YtnldlakcopbpcaaGreatDoorActOk
import Derived.Test.YtnldlakcopbpcaaGreatDoorSame0
namespace Go.Proofs.YtnldlakcopbpcaaGreatDoor
open Go.RowKit Go.Lib

/-- What script.Same tells. -/
def SameC : Prop := ∀ (a a' : ActD) (vb vm vb' vm' : Value) (w : World), ActOk a → ActOk a' → ActV w a (.agg (actCells a vb vm)) → ActV w a' (.agg (actCells a' vb' vm')) →
  Calls Tryz.prog 10 #[.agg (actCells a vb vm), .agg (actCells a' vb' vm')] w (SamePost a a' w)

theorem LaidS.size {a : ActD} {s : ByteArray} (h : LaidS a s) (ok : ActOk a) : s.size ≤ 10000 := by
  obtain ⟨s1, h1, h2⟩ := h
  have l1 := let_verb a.kind
  have l2 := let_op a.opk
  have e1 : (verbAt a.kind).2.data.toList.length = (verbAt a.kind).2.size := (Lib.size_eq _).symm
  have e2 : (opAt a.opk).2.data.toList.length = (opAt a.opk).2.size := (Lib.size_eq _).symm
  have b1 := AddS.size ok h1
  split at h2
  · have b2 := AddS.size ok h2
    rw [ByteArray.size_append, ByteArray.size_append] at b2
    have b3 : s.size ≤ s1.size + (1 + (opAt a.opk).1.size) + 1002 * (opAt a.opk).2.data.toList.length := b2
    omega
  · subst h2; omega

def PrintPost (a : ActD) (w : World) (e : Ending) (w' : World) : Prop :=
  ∃ s, LaidS a s ∧ ((parseE s = 0 ∧ parseA s = a ∧ e = .returned (.tuple #[.string s, .int .i64 0])) ∨ (¬ (parseE s = 0 ∧ parseA s = a) ∧ e = .returned (.tuple #[.string ⟨#[]⟩, .int .i64 2]))) ∧ Fr [] w w'

theorem ActV.of_own {w : World} {B : Nat} {a : ActD} {vb vm : Value} (h1 : w.ownsRow B 5 1 vb a.bytes.length (a.bytes.map u8v)) (h2 : w.ownsRow B 4 1 vm a.marks.length (a.marks.map Value.bool)) : ActV w a (.agg (actCells a vb vm)) :=
  ⟨vb, vm, rfl, RowAt.of_own (by simpa using h1), RowAt.of_own (by simpa using h2)⟩

set_option maxRecDepth 100000 in
set_option maxHeartbeats 4000000 in
theorem print_any {B : Nat} (hsame : SameC) (a : ActD) (vb vm : Value) (w : World) (hG : Gl B w) (ok : ActOk a) (hV : ActV w a (.agg (actCells a vb vm))) : Calls Tryz.prog 7 #[.agg (actCells a vb vm)] w (PrintPost a w) := by
  have hA0 : (w.alloc (.cells (actCells a vb vm) 35)).heap[w.heap.size]? = some (.cells (actCells a vb vm) 35) := alloc_heap_new _ _
  have hF0 : Fr [] w (w.alloc (.cells (actCells a vb vm) 35)) := (Fr.refl [] w).alloc _
  go_enter Tryz.func7, Tryz.ntmps7
  go_upto_region 1 with fail
  generalize w.alloc (.cells (actCells a vb vm) 35) = wp at *
  obtain ⟨d0, d1, d2, d3, d4, d5, d6, d7, d8, d9⟩ := act_cells hA0
  have A0 := Lib.hid hA0; have F0 := Lib.hid hF0; have HV := Lib.hid hV; have HS := Lib.hid hsame; clear hA0 hF0 hV hsame
  go_wp2_with fail
  refine (laid_any a vb vm wp (hG.fr0 F0.out) ok (HV.out.fr0 F0.out)).mono ?_
  rintro e w1 ⟨s, hs, rfl, hf1⟩
  have L := Lib.hid hs
  have F1 : Hid (Fr [] wp w1) := Lib.hid hf1
  clear hf1 d0 d1 d2 d3 d4 d5 d6 d7 d8 d9
  go_wp2_with fail
  refine (parse_any (B := B) s w1 (hG.fr0 (F0.out.trans F1.out)) (Nat.le_trans (L.out.size ok) (by decide))).mono ?_
  rintro e w2 ⟨vb', vm', rfl, ob, om, hf2⟩
  obtain ⟨q1, l1, rfl⟩ := own_slice ob
  obtain ⟨q2, l2, rfl⟩ := own_slice om
  have V2 : Hid (ActV w2 (parseA s) (.agg (actCells (parseA s) (.slice q1 (parseA s).bytes.length l1) (.slice q2 (parseA s).marks.length l2)))) := Lib.hid (ActV.of_own ob om)
  have F2 : Hid (Fr [] wp w2) := Lib.hid (F1.out.trans hf2)
  have okA := parseA_ok s
  have OKA := Lib.hid okA
  clear ob om hf2 okA hs
  have hA2 := F2.out.heap A0.out (by simp)
  have hA3 : (w2.alloc (.cells (actCells (parseA s) (.slice q1 (parseA s).bytes.length l1) (.slice q2 (parseA s).marks.length l2)) 35)).heap[w.heap.size]? = some (.cells (actCells a vb vm) 35) := heap_later hA2
  have hB3 : (w2.alloc (.cells (actCells (parseA s) (.slice q1 (parseA s).bytes.length l1) (.slice q2 (parseA s).marks.length l2)) 35)).heap[w2.heap.size]? = some (.cells (actCells (parseA s) (.slice q1 (parseA s).bytes.length l1) (.slice q2 (parseA s).marks.length l2)) 35) := alloc_heap_new _ _
  have hF3 : Fr [] w2 (w2.alloc (.cells (actCells (parseA s) (.slice q1 (parseA s).bytes.length l1) (.slice q2 (parseA s).marks.length l2)) 35)) := (Fr.refl [] w2).alloc _
  have A3 := Lib.hid hA3; have B3 := Lib.hid hB3; have F3 := Lib.hid hF3; clear hA2 hA3 hB3 hF3
  unfold actCells
  go_upto_region 3 with fail
  change Code.wp _ _ _ _ (w2.alloc (.cells (actCells (parseA s) (.slice q1 (parseA s).bytes.length l1) (.slice q2 (parseA s).marks.length l2)) 35))
  generalize w2.alloc (.cells (actCells (parseA s) (.slice q1 (parseA s).bytes.length l1) (.slice q2 (parseA s).marks.length l2)) 35) = w3 at *
  obtain ⟨d0, d1, d2, d3, d4, d5, d6, d7, d8, d9⟩ := act_cells A3.out
  obtain ⟨g0, g1, g2, g3, g4, g5, g6, g7, g8, g9⟩ := act_cells B3.out
  have F0w := F0.out.trans (F2.out.trans F3.out)
  have FW := Lib.hid F0w; clear F0w
  by_cases he : parseE s = 0
  · rw [he]
    have HE := Lib.hid he; clear he
    go_wp2_with fail
    refine (HS.out a (parseA s) vb vm _ _ w3 ok OKA.out (HV.out.fr0 FW.out) (V2.out.fr0 F3.out)).mono ?_
    rintro e w4 ⟨r, rfl, hr, hf4⟩
    have F4 := Lib.hid (FW.out.trans hf4)
    have HR := Lib.hid hr
    clear hf4 hr
    cases r
    · go_wp2_with fail
      refine bodyPost_ret (v := .tuple #[.string ⟨#[]⟩, .int .i64 2]) (by simp [results, Tryz.results7, go_sem]) rfl ⟨s, L.out, .inr ⟨fun h => ?_, rfl⟩, F4.out⟩
      exact absurd (HR.out.2 h.2.symm) (by decide)
    · go_wp2_with fail
      refine bodyPost_ret (v := .tuple #[.string s, .int .i64 0]) (by simp [results, Tryz.results7, go_sem]) rfl ⟨s, L.out, .inl ⟨HE.out, (HR.out.1 (by trivial)).symm, rfl⟩, F4.out⟩
  · have hq : (parseE s != 0) = true := by simpa using he
    have HE := Lib.hid he; clear he
    go_wp2_with fail
    exact bodyPost_ret (v := .tuple #[.string ⟨#[]⟩, .int .i64 2]) (by simp [results, Tryz.results7, go_sem]) rfl ⟨s, L.out, .inr ⟨fun h => HE.out h.1, rfl⟩, FW.out⟩
end Go.Proofs.YtnldlakcopbpcaaGreatDoor
