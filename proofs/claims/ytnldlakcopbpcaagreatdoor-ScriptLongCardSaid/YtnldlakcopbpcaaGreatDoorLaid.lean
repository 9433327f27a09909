/- Contract: laid: an act's line. -/
import Derived.Test.YtnldlakcopbpcaaGreatDoorLook
import Derived.Deep.DeepCutAuto
import Derived.Deep.CutBlock
import Derived.Deep.RegionLaw
import Derived.Lib.CutLaws
namespace Go.Proofs.YtnldlakcopbpcaaGreatDoor
open Go.RowKit Go.Lib

theorem AddS.size {a : ActD} (ok : ActOk a) : ∀ {cs : List UInt8} {s s' : ByteArray}, AddS cs a s s' → s'.size ≤ s.size + 1002 * cs.length
  | [], s, s', h => by rw [show s' = s from h]; simp
  | c :: cs, s, s', ⟨t, hT, h⟩ => by
    have h1 := AddS.size ok h
    have h2 := hT.size ok
    rw [ByteArray.size_append, ByteArray.size_append] at h1
    have h3 : s'.size ≤ s.size + (1 + t.size) + 1002 * cs.length := h1
    simp only [List.length_cons]; omega

def LaidS (a : ActD) (s : ByteArray) : Prop :=
  ∃ s1, AddS (verbAt a.kind).2.data.toList a (verbAt a.kind).1 s1 ∧ if a.kind = 1 then AddS (opAt a.opk).2.data.toList a (s1 ++ ((⟨#[32]⟩ : ByteArray) ++ (opAt a.opk).1)) s else s = s1

def LaidPost (a : ActD) (w : World) (e : Ending) (w' : World) : Prop := ∃ s, LaidS a s ∧ e = .returned (.string s) ∧ Fr [] w w'

/-- The line under way in a block. -/
def LCut (P : ByteArray → Prop) (A : Array Value) (w : World) (s3 : Value) (wx : World) : Prop :=
  ∃ ob s, s3 = .pointer (some ⟨ob, 0, none⟩) ∧ Hid (P s) ∧ Hid (wx.heap[ob]? = some (.cells #[.string s] 9)) ∧ Hid (wx.heap[w.heap.size]? = some (.cells A 35)) ∧ Hid (w.heap.size + 1 ≤ ob) ∧ Hid (Fr [] w wx)

def strBox : Obj := .cells #[.string ⟨#[]⟩] 9
theorem sbox0 (w : World) : (w.alloc (.cells #[.string ⟨#[]⟩] 9)).heap[w.heap.size]? = some strBox := alloc_heap_new _ _

theorem lcut_new {P : ByteArray → Prop} {A : Array Value} {w wp w1 : World} {s : ByteArray} (hP : P s) (F0 : Fr [] w wp) (F1 : Fr [] wp w1) (hA : wp.heap[w.heap.size]? = some (.cells A 35)) (hz : wp.heap.size = w.heap.size + 1) :
    LCut P A w (.pointer (some ⟨w1.heap.size, 0, none⟩)) (w1.alloc (.cells #[.string s] 9)) :=
  ⟨_, s, rfl, Lib.hid hP, Lib.hid (alloc_heap_new _ _), Lib.hid (heap_later (F1.heap hA (by simp))), Lib.hid (by have := F1.size; omega), Lib.hid ((F0.trans F1).alloc _)⟩
theorem lcut_set {P : ByteArray → Prop} {A : Array Value} {w w1 : World} {s s0 : ByteArray} {ob : Nat} (hP : P s) (F1 : Fr [] w w1) (hA : w1.heap[w.heap.size]? = some (.cells A 35)) (hX : w1.heap[ob]? = some (.cells #[.string s0] 9)) (hle : w.heap.size + 1 ≤ ob) :
    LCut P A w (.pointer (some ⟨ob, 0, none⟩)) (w1.setCell ⟨ob, 0, none⟩ (.string s)) := by
  have f : Fr [ob] w1 (w1.setCell ⟨ob, 0, none⟩ (.string s)) := (Fr.refl _ _).setCell _ _ (.inl (by simp))
  have h := heap_setCell_same (j := 0) hX (.string s)
  exact ⟨ob, s, rfl, Lib.hid hP, Lib.hid (by simpa using h), Lib.hid (f.heap hA (by simp; omega)), Lib.hid hle, Lib.hid (F1.then f (fun x hx => by simp only [List.mem_singleton] at hx; subst hx; exact .inr (by omega)))⟩
theorem lcut_add {P : ByteArray → Prop} {A : Array Value} {w w1 w2 : World} {s : ByteArray} {ob : Nat} (hP : P s) (F1 : Fr [] w w1) (hA : w1.heap[w.heap.size]? = some (.cells A 35)) (f : Fr [ob] w1 w2) (hX : w2.heap[ob]? = some (.cells #[.string s] 9)) (hle : w.heap.size + 1 ≤ ob) :
    LCut P A w (.pointer (some ⟨ob, 0, none⟩)) w2 :=
  ⟨ob, s, rfl, Lib.hid hP, Lib.hid hX, Lib.hid (f.heap hA (by simp; omega)), Lib.hid hle, Lib.hid (F1.then f (fun x hx => by simp only [List.mem_singleton] at hx; subst hx; exact .inr (by omega)))⟩

set_option maxRecDepth 100000 in
set_option maxHeartbeats 8000000 in
theorem laid_any {B : Nat} (a : ActD) (vb vm : Value) (w : World) (hG : Gl B w) (ok : ActOk a) (hV : ActV w a (.agg (actCells a vb vm))) : Calls Tryz.prog 15 #[.agg (actCells a vb vm)] w (LaidPost a w) := by
  have hmf : ∀ (fn : Fn) (first cap : Array Value) (w : World), (Instr.makeFunc fn first cap).run Tryz.prog w = .ok (.func fn first cap) w := fun _ _ _ _ => rfl
  have e25 : ∀ args w, (callFunc 25 args).run Tryz.prog w = .ok (.enter 25 args) w := enters_of Tryz.func25 (by kernel_rfl) rfl
  have hA0 : (w.alloc (.cells (actCells a vb vm) 35)).heap[w.heap.size]? = some (.cells (actCells a vb vm) 35) := alloc_heap_new _ _
  have hF0 : Fr [] w (w.alloc (.cells (actCells a vb vm) 35)) := (Fr.refl [] w).alloc _
  have hsz : (w.alloc (.cells (actCells a vb vm) 35)).heap.size = w.heap.size + 1 := by simp
  go_enter Tryz.func15, Tryz.ntmps15
  go_upto_region 1 with fail
  generalize w.alloc (.cells (actCells a vb vm) 35) = wp at *
  obtain ⟨d0, d1, d2, d3, d4, d5, d6, d7, d8, d9⟩ := act_cells hA0
  have A0 := Lib.hid hA0; have F0 := Lib.hid hF0; have HV := Lib.hid hV; have HZ := Lib.hid hsz; clear hA0 hF0 hV hsz d1 d2 d3 d4 d5 d6 d7 d8 d9
  have HG := Lib.hid hG
  go_cut [3] (fun s3 wx => LCut (fun s => s = (verbAt a.kind).1) (actCells a vb vm) w s3 wx)
  case first =>
    have d0' : (wp.alloc (.cells #[.string ⟨#[]⟩] 9)).cell? ⟨w.heap.size, 0, none⟩ = some (.int .i64 a.kind) := ((Fr.refl [] wp).alloc _).cell0 d0
    go_region_law (go_simp; go_at_call 24; refine (verbs_any _).mono ?_; rintro e w1 ⟨rfl, hw1⟩; (first | (have M1 : Hid (w1.heap[wp.heap.size]? = some (.map verbEs 5)) := Lib.hid (by rw [← hw1]; exact alloc_heap_new wp.drew _); have F1 : Hid (Fr [] wp w1) := Lib.hid (by rw [← hw1]; exact (Fr.refl [] wp).drew.alloc _); have W1 : Hid (w1.heap.size = wp.heap.size + 1) := Lib.hid (by rw [← hw1]; simp)) | (have M1 : Hid (w1.heap[wp.heap.size + 1]? = some (.map verbEs 5)) := Lib.hid (by rw [← hw1]; have := alloc_heap_new (wp.alloc (.cells #[.string ⟨#[]⟩] 9)).drew (.map verbEs 5); simpa using this); have F1 : Hid (Fr [] wp w1) := Lib.hid (by rw [← hw1]; exact (((Fr.refl [] wp).alloc _).drew.alloc _)); have X1 : Hid (w1.heap[wp.heap.size]? = some strBox) := Lib.hid (by rw [← hw1]; exact heap_later (sbox0 wp)); have bx0 : w1.cell? ⟨wp.heap.size, 0, none⟩ = some (.string ⟨#[]⟩) := cell_of_row w1 _ 0 _ _ _ X1.out; have bx1 : w1.frozen? ⟨wp.heap.size, 0, none⟩ = false := (ob_cells X1.out).2)); clear hw1; have hlk1 := look_verb w1 _ a.kind M1.out; have hlk2 := look_verb (w1.alloc (.cells #[.string ⟨#[]⟩] 9)) _ a.kind (heap_later M1.out); have hlk3 := look_verb (w1.alloc (.cells #[.string (verbAt a.kind).1] 9)) _ a.kind (heap_later M1.out); have dk1 := F1.out.cell0 d0; have dk2 : (w1.alloc (.cells #[.string ⟨#[]⟩] 9)).cell? ⟨w.heap.size, 0, none⟩ = some (.int .i64 a.kind) := (F1.out.alloc _).cell0 d0; have hfn := fun W => field_name (.string (verbAt a.kind).1) (.string (verbAt a.kind).2) W)
    all_goals
      go_wp2_with fail
      go_meet
      first
      | exact lcut_new rfl F0.out F1.out A0.out HZ.out
      | exact lcut_set rfl (F0.out.trans F1.out) (F1.out.heap A0.out (by simp)) X1.out (by have := HZ.out; omega)
  case rest =>
    obtain ⟨ob, s, rfl, hP, hO, hA, hle, hF⟩ := hcut
    have HS := hP.out
    subst HS
    have hl := let_verb a.kind
    have HL := Lib.hid hl; clear hl
    obtain ⟨d0, d1, d2, d3, d4, d5, d6, d7, d8, d9⟩ := act_cells hA.out
    clear d1 d2 d3 d4 d5 d6 d7 d8 d9
    go_upto_region 3 with fail
    go_cut [4] (fun s4 wx => s4 = .func (.func 25) #[] #[.pointer (some ⟨ob, 0, none⟩), .pointer (some ⟨w.heap.size, 0, none⟩)] ∧ LCut (fun s' => AddS (verbAt a.kind).2.data.toList a (verbAt a.kind).1 s') (actCells a vb vm) w (.pointer (some ⟨ob, 0, none⟩)) wx)
    case first =>
      go_region_law (first | (go_simp; go_at_call 24; refine (verbs_any _).mono ?_; rintro e w1 ⟨rfl, hw1⟩; have M1 : Hid (w1.heap[wc.heap.size]? = some (.map verbEs 5)) := Lib.hid (by rw [← hw1]; exact alloc_heap_new wc.drew _); have F1 : Hid (Fr [] wc w1) := Lib.hid (by rw [← hw1]; exact (Fr.refl [] wc).drew.alloc _); clear hw1; have hlk1 := look_verb w1 _ a.kind M1.out; have dk1 := F1.out.cell0 d0) | (go_simp; go_at_call 25; refine (add_any (B := B) _ _ ob w.heap.size a vb vm _ w w1 (HG.out.fr0 (hF.out.trans F1.out)) (Nat.le_trans HG.out.size (Nat.le_of_succ_le hle.out)) (F1.out.heap hO.out (by simp)) (F1.out.heap hA.out (by simp)) (hF.out.trans F1.out) (Nat.le_of_succ_le hle.out) (Nat.ne_of_lt hle.out) ok HV.out HL.out.1 (Nat.le_trans HL.out.2.1 (by decide)) (Nat.le_trans HL.out.2.2 (by decide))).mono ?_; rintro e w2 ⟨s', had, rfl, hO2, hF2⟩; have HAD := Lib.hid had; have HO2 := Lib.hid hO2; have F2 := Lib.hid hF2; clear had hO2 hF2))
      all_goals
        go_wp2_with fail
        go_meet
        exact ⟨rfl, lcut_add HAD.out (hF.out.trans F1.out) (F1.out.heap hA.out (by simp)) F2.out HO2.out hle.out⟩
    case rest =>
      obtain ⟨rfl, ob', s1, ho, hP1, hO1, hA1, hle1, hF1⟩ := hcut
      have hoo : ob = ob' := by simpa using ho
      subst hoo
      clear ho d0
      obtain ⟨d0, d1, d2, d3, d4, d5, d6, d7, d8, d9⟩ := act_cells hA1.out
      clear d1 d2 d4 d5 d6 d7 d8 d9
      obtain ⟨x1, x2⟩ := ob_cells hO1.out
      by_cases hk : a.kind = 1
      · have hq : (a.kind == 1) = true := by simpa using hk
        have HK := Lib.hid hk; clear hk
        have hl := let_op a.opk
        have HL2 := Lib.hid hl; clear hl
        have hs1 : s1.size ≤ 4000 := by
          have h1 := AddS.size ok hP1.out
          have h2 := HL.out.2.1
          have h3 := HL.out.2.2
          have h4 : (verbAt a.kind).2.data.toList.length = (verbAt a.kind).2.size := (Lib.size_eq _).symm
          rw [h4] at h1; omega
        have hop := HL2.out.2.2
        have cc1 : (9223372036854775807 < 1 + (opAt a.opk).1.size) = False := eq_false (by omega)
        have cc2 : (9223372036854775807 < s1.size + (1 + (opAt a.opk).1.size)) = False := eq_false (by omega)
        go_upto_region 5 with fail
        go_cut [20] (fun _ wx => LCut (fun s' => s' = s1 ++ ((⟨#[32]⟩ : ByteArray) ++ (opAt a.opk).1)) (actCells a vb vm) w (.pointer (some ⟨ob, 0, none⟩)) wx)
        case first =>
          go_region_law (first | (go_simp; go_at_call 27; refine (ops_any _).mono ?_; rintro e w1 ⟨rfl, hw1⟩; have M1 : Hid (w1.heap[wc.heap.size]? = some (.map opvEs 11)) := Lib.hid (by rw [← hw1]; exact alloc_heap_new wc.drew _); have F1 : Hid (Fr [] wc w1) := Lib.hid (by rw [← hw1]; exact (Fr.refl [] wc).drew.alloc _); clear hw1; have hlk1 := look_op w1 _ a.opk M1.out; have dk1 := F1.out.cell0 d3; have X1 : Hid (w1.heap[ob]? = some (.cells #[.string s1] 9)) := Lib.hid (F1.out.heap hO1.out (by simp)); obtain ⟨y1, y2⟩ := ob_cells X1.out; have hfn := fun W => field_name (.string (opAt a.opk).1) (.string (opAt a.opk).2) W))
          all_goals
            go_wp2_with fail
            go_meet
            exact lcut_set rfl (hF1.out.trans F1.out) (F1.out.heap hA1.out (by simp)) X1.out hle.out
        case rest =>
          obtain ⟨ob', s2, ho, hP2, hO2, hA2, hle2, hF2⟩ := hcut
          have hoo : ob = ob' := by simpa using ho
          subst hoo
          have HS2 := hP2.out
          subst HS2
          clear ho d0 d3 x1 x2
          obtain ⟨d0, d1, d2, d3, d4, d5, d6, d7, d8, d9⟩ := act_cells hA2.out
          clear d0 d1 d2 d4 d5 d6 d7 d8 d9
          go_upto_region 6 with fail
          go_cut [29] (fun _ wx => LCut (fun s' => AddS (opAt a.opk).2.data.toList a (s1 ++ ((⟨#[32]⟩ : ByteArray) ++ (opAt a.opk).1)) s') (actCells a vb vm) w (.pointer (some ⟨ob, 0, none⟩)) wx)
          case first =>
            go_region_law (first | (go_simp; go_at_call 27; refine (ops_any _).mono ?_; rintro e w1 ⟨rfl, hw1⟩; have M1 : Hid (w1.heap[wc.heap.size]? = some (.map opvEs 11)) := Lib.hid (by rw [← hw1]; exact alloc_heap_new wc.drew _); have F1 : Hid (Fr [] wc w1) := Lib.hid (by rw [← hw1]; exact (Fr.refl [] wc).drew.alloc _); clear hw1; have hlk1 := look_op w1 _ a.opk M1.out; have dk1 := F1.out.cell0 d3; skip) | (go_simp; go_at_call 25; refine (add_any (B := B) _ _ ob w.heap.size a vb vm _ w w1 (HG.out.fr0 (hF2.out.trans F1.out)) (Nat.le_trans HG.out.size (Nat.le_of_succ_le hle.out)) (F1.out.heap hO2.out (by simp)) (F1.out.heap hA2.out (by simp)) (hF2.out.trans F1.out) (Nat.le_of_succ_le hle.out) (Nat.ne_of_lt hle.out) ok HV.out HL2.out.1 (Nat.le_trans HL2.out.2.1 (by decide)) (by rw [ByteArray.size_append, ByteArray.size_append]; show s1.size + (1 + _) ≤ _; omega)).mono ?_; rintro e w2 ⟨s', had, rfl, hO3, hF3⟩; have HAD := Lib.hid had; have HO2 := Lib.hid hO3; have F2 := Lib.hid hF3; clear had hO3 hF3))
            all_goals
              go_wp2_with fail
              go_meet
              exact lcut_add HAD.out (hF2.out.trans F1.out) (F1.out.heap hA2.out (by simp)) F2.out HO2.out hle.out
          case rest =>
            obtain ⟨ob', s3, ho, hP3, hO3, hA3, hle3, hF3⟩ := hcut
            have hoo : ob = ob' := by simpa using ho
            subst hoo
            obtain ⟨y1, y2⟩ := ob_cells hO3.out
            go_wp2_with fail
            go_ret
            exact ⟨s3, ⟨s1, hP1.out, by rw [if_pos HK.out]; exact hP3.out⟩, rfl, hF3.out⟩
      · have hq : (a.kind == 1) = false := by simpa using hk
        go_wp2_with fail
        go_ret
        exact ⟨s1, ⟨s1, hP1.out, by rw [if_neg hk]⟩, rfl, hF1.out⟩
end Go.Proofs.YtnldlakcopbpcaaGreatDoor
