/- Contracts: what of an act is shown, by a letter. -/
import Derived.Test.YtnldlakcopbpcaaGreatDoorListed
import Derived.Lib.ItoaLen
namespace Go.Proofs.YtnldlakcopbpcaaGreatDoor
open Go.RowKit Go.Lib

def isI64 (n : Int) : Prop := -9223372036854775808 ≤ n ∧ n ≤ 9223372036854775807
/-- Bounds under which an act is printed. -/
structure ActOk (a : ActD) : Prop where
  thread : isI64 a.thread
  n : isI64 a.n
  at_ : isI64 a.at_
  opn : isI64 a.opn
  path : a.path.size ≤ 400
  dest : a.dest.size ≤ 400
  blen : a.bytes.length ≤ 500
  bs : ∀ n ∈ a.bytes, n < 256
  mlen : a.marks.length ≤ 80

def itoaB (n : Int) : ByteArray := ⟨(Lib.itoa n).toArray⟩

/-- An act as a value. -/
def ActV (w : World) (a : ActD) (v : Value) : Prop := ∃ vb vm, v = .agg (actCells a vb vm) ∧ RowAt w vb (a.bytes.map u8v) ∧ RowAt w vm (a.marks.map Value.bool)
theorem ActV.fr0 {w w' : World} {a : ActD} {v : Value} (h : ActV w a v) (f : Fr [] w w') : ActV w' a v := by
  obtain ⟨vb, vm, e, h1, h2⟩ := h
  exact ⟨vb, vm, e, h1.fr0 f, h2.fr0 f⟩

def ShowS (c : Int) (a : ActD) (s : ByteArray) : Prop :=
  if c = 116 then s = itoaB a.thread
  else if c = 109 then s = itoaB a.n
  else if c = 97 then s = itoaB a.at_
  else if c = 110 then s = itoaB a.opn
  else if c = 112 then s = a.path
  else if c = 113 then s = a.dest
  else if c = 98 then s.size ≤ 1001 ∧ (a.bytes = [] → s = ⟨#[45]⟩)
  else if c = 107 then s.size ≤ 81 ∧ (a.marks = [] → s = ⟨#[45]⟩)
  else False

def ShowPost (c : Int) (a : ActD) (w : World) (e : Ending) (w' : World) : Prop := ∃ s, ShowS c a s ∧ e = .returned (.string s) ∧ Fr [] w w'

theorem boxed {w : World} {a : ActD} {vb vm : Value} : (w.alloc (.cells (actCells a vb vm) 35)).heap[w.heap.size]? = some (.cells (actCells a vb vm) 35) := alloc_heap_new _ _

set_option maxRecDepth 100000 in
set_option maxHeartbeats 1000000 in
theorem num_show {B : Nat} (k j : Nat) (c : Int) (bk : Nat) (a : ActD) (v : Value) (n : Int) (w : World) (hG : Gl B w) (hk : w.cell? ⟨bk, 0, none⟩ = some (fnv k))
    (henter : ∀ args w, (callFunc k args).run Tryz.prog w = .ok (.enter k args) w)
    (hfield : ∀ b w, Calls Tryz.prog k #[.pointer (some ⟨b, 0, none⟩)] w fun e w' => e = .returned (.pointer (some ⟨b, j, none⟩)) ∧ w = w')
    (hn : isI64 n) (hA : ActV w a v) (hj : ∀ vb vm, (actCells a vb vm)[j]? = some (.int .i64 n)) (hS : ShowS c a (itoaB n)) :
    Calls Tryz.prog 57 #[v, .pointer (some ⟨bk, 0, none⟩)] w (ShowPost c a w) := by
  obtain ⟨vb, vm, rfl, -, -⟩ := hA
  have hk' : (w.alloc (.cells (actCells a vb vm) 35)).cell? ⟨bk, 0, none⟩ = some (.func (.func k) #[] #[]) := ((Fr.refl [] w).alloc _).cell0 hk
  have hc : (w.alloc (.cells (actCells a vb vm) 35)).cell? ⟨w.heap.size, j, none⟩ = some (.int .i64 n) := by rw [cell_of_row _ _ _ _ _ _ boxed]; exact hj vb vm
  have hf : Fr [] w (w.alloc (.cells (actCells a vb vm) 35)) := (Fr.refl [] w).alloc _
  have HFi := Lib.hid hfield; have HJ := Lib.hid hj; have HS := Lib.hid hS; have HF := Lib.hid hf; clear hfield hj hS hk hf
  go_enter Tryz.func57, Tryz.ntmps57
  unfold actCells at *
  go_wp2_with fail
  refine (HFi.out _ _).mono ?_
  rintro e w1 ⟨rfl, rfl⟩
  go_wp2_with fail
  refine (itoa_any n _ (hG.fr0 HF.out) hn.1 hn.2).mono ?_
  rintro e w2 ⟨rfl, hf2⟩
  go_wp2_with fail
  go_ret
  exact ⟨_, HS.out, rfl, HF.out.trans hf2⟩

set_option maxRecDepth 100000 in
set_option maxHeartbeats 1000000 in
theorem way_show (k j : Nat) (c : Int) (bk : Nat) (a : ActD) (v : Value) (s : ByteArray) (w : World) (hk : w.cell? ⟨bk, 0, none⟩ = some (fnv k))
    (henter : ∀ args w, (callFunc k args).run Tryz.prog w = .ok (.enter k args) w)
    (hfield : ∀ b w, Calls Tryz.prog k #[.pointer (some ⟨b, 0, none⟩)] w fun e w' => e = .returned (.pointer (some ⟨b, j, none⟩)) ∧ w = w')
    (hA : ActV w a v) (hj : ∀ vb vm, (actCells a vb vm)[j]? = some (.string s)) (hS : ShowS c a s) :
    Calls Tryz.prog 61 #[v, .pointer (some ⟨bk, 0, none⟩)] w (ShowPost c a w) := by
  obtain ⟨vb, vm, rfl, -, -⟩ := hA
  have hk' : (w.alloc (.cells (actCells a vb vm) 35)).cell? ⟨bk, 0, none⟩ = some (.func (.func k) #[] #[]) := ((Fr.refl [] w).alloc _).cell0 hk
  have hc : (w.alloc (.cells (actCells a vb vm) 35)).cell? ⟨w.heap.size, j, none⟩ = some (.string s) := by rw [cell_of_row _ _ _ _ _ _ boxed]; exact hj vb vm
  have hf : Fr [] w (w.alloc (.cells (actCells a vb vm) 35)) := (Fr.refl [] w).alloc _
  have HFi := Lib.hid hfield; have HJ := Lib.hid hj; have HS := Lib.hid hS; have HF := Lib.hid hf; clear hfield hj hS hk hf
  go_enter Tryz.func61, Tryz.ntmps61
  unfold actCells at *
  go_wp2_with fail
  refine (HFi.out _ _).mono ?_
  rintro e w1 ⟨rfl, rfl⟩
  go_wp2_with fail
  go_ret
  exact ⟨_, HS.out, rfl, HF.out⟩

set_option maxRecDepth 100000 in
set_option maxHeartbeats 1000000 in
theorem bytes_show (a : ActD) (v : Value) (w : World) (ok : ActOk a) (hA : ActV w a v) : Calls Tryz.prog 46 #[v] w (ShowPost 98 a w) := by
  obtain ⟨vb, vm, rfl, hb, hm⟩ := hA
  have hc : (w.alloc (.cells (actCells a vb vm) 35)).cell? ⟨w.heap.size, 8, none⟩ = some vb := by rw [cell_of_row _ _ _ _ _ _ boxed]; rfl
  have hf : Fr [] w (w.alloc (.cells (actCells a vb vm) 35)) := (Fr.refl [] w).alloc _
  have HB := Lib.hid (hb.fr0 hf); have HF := Lib.hid hf; clear hb hm hf
  go_enter Tryz.func46, Tryz.ntmps46
  unfold actCells at *
  go_wp2_with fail
  refine (listed_byte a.bytes ok.bs (by have := ok.blen; omega) _ _ HB.out).mono ?_
  rintro e w2 ⟨s, hs, hs0, rfl, hf2⟩
  go_wp2_with fail
  go_ret
  exact ⟨_, by simp only [ShowS]; exact ⟨by have := ok.blen; omega, fun h => hs0 (by rw [h]; rfl)⟩, rfl, HF.out.trans hf2⟩

set_option maxRecDepth 100000 in
set_option maxHeartbeats 1000000 in
theorem marks_show (a : ActD) (v : Value) (w : World) (ok : ActOk a) (hA : ActV w a v) : Calls Tryz.prog 51 #[v] w (ShowPost 107 a w) := by
  obtain ⟨vb, vm, rfl, hb, hm⟩ := hA
  have hc : (w.alloc (.cells (actCells a vb vm) 35)).cell? ⟨w.heap.size, 9, none⟩ = some vm := by rw [cell_of_row _ _ _ _ _ _ boxed]; rfl
  have hf : Fr [] w (w.alloc (.cells (actCells a vb vm) 35)) := (Fr.refl [] w).alloc _
  have HB := Lib.hid (hm.fr0 hf); have HF := Lib.hid hf; clear hb hm hf
  go_enter Tryz.func51, Tryz.ntmps51
  unfold actCells at *
  go_wp2_with fail
  refine (listed_bool a.marks (by have := ok.mlen; omega) _ _ HB.out).mono ?_
  rintro e w2 ⟨s, hs, hs0, rfl, hf2⟩
  go_wp2_with fail
  go_ret
  exact ⟨_, by simp only [ShowS]; exact ⟨by have := ok.mlen; omega, fun h => hs0 (by rw [h]; rfl)⟩, rfl, HF.out.trans hf2⟩

theorem part_show {B : Nat} (c : Int) (hc : c ∈ letters) (w : World) (r base : Nat) (hP : PartsAt w r base) : ∃ es n i sh cap sv,
    w.heap[r]? = some (.map es n) ∧ Instr.findNow (.int .u8) (.int .u8 c) es.toList 0 = some (some (i, .agg #[sv, .func (.func sh) #[] cap])) ∧ (∀ args w, (callFunc sh args).run Tryz.prog w = .ok (.enter sh args) w) ∧
    ∀ W, Fr [] w W → Gl B W → ∀ (a : ActD) (v : Value), ActOk a → ActV W a v → Calls Tryz.prog sh (#[v] ++ cap) W (ShowPost c a W) := by
  obtain ⟨b1, b2, b3, b4, b5, b6, hb, hm, c1, c2, c3, c4, c5, c6⟩ := hP
  have e57 : ∀ args w, (callFunc 57 args).run Tryz.prog w = .ok (.enter 57 args) w := enters_of Tryz.func57 (by kernel_rfl) rfl
  have e61 : ∀ args w, (callFunc 61 args).run Tryz.prog w = .ok (.enter 61 args) w := enters_of Tryz.func61 (by kernel_rfl) rfl
  simp only [letters, List.mem_cons, List.not_mem_nil, or_false] at hc
  rcases hc with rfl | rfl | rfl | rfl | rfl | rfl | rfl | rfl
  · exact ⟨_, _, 0, 57, _, _, hm, rfl, e57, fun W f hG a v ok hA => num_show 37 1 116 b1 a v a.thread W hG (f.cell0 c1) (enters_of Tryz.func37 (by kernel_rfl) rfl) field37 ok.thread hA (fun _ _ => rfl) (by simp [ShowS])⟩
  · exact ⟨_, _, 1, 57, _, _, hm, rfl, e57, fun W f hG a v ok hA => num_show 38 2 109 b2 a v a.n W hG (f.cell0 c2) (enters_of Tryz.func38 (by kernel_rfl) rfl) field38 ok.n hA (fun _ _ => rfl) (by simp [ShowS])⟩
  · exact ⟨_, _, 2, 57, _, _, hm, rfl, e57, fun W f hG a v ok hA => num_show 39 6 97 b3 a v a.at_ W hG (f.cell0 c3) (enters_of Tryz.func39 (by kernel_rfl) rfl) field39 ok.at_ hA (fun _ _ => rfl) (by simp [ShowS])⟩
  · exact ⟨_, _, 3, 57, _, _, hm, rfl, e57, fun W f hG a v ok hA => num_show 40 7 110 b4 a v a.opn W hG (f.cell0 c4) (enters_of Tryz.func40 (by kernel_rfl) rfl) field40 ok.opn hA (fun _ _ => rfl) (by simp [ShowS])⟩
  · exact ⟨_, _, 4, 61, _, _, hm, rfl, e61, fun W f hG a v ok hA => way_show 42 4 112 b5 a v a.path W (f.cell0 c5) (enters_of Tryz.func42 (by kernel_rfl) rfl) field42 hA (fun _ _ => rfl) (by simp [ShowS])⟩
  · exact ⟨_, _, 5, 61, _, _, hm, rfl, e61, fun W f hG a v ok hA => way_show 43 5 113 b6 a v a.dest W (f.cell0 c6) (enters_of Tryz.func43 (by kernel_rfl) rfl) field43 hA (fun _ _ => rfl) (by simp [ShowS])⟩
  · exact ⟨_, _, 6, 46, _, _, hm, rfl, enters_of Tryz.func46 (by kernel_rfl) rfl, fun W f hG a v ok hA => bytes_show a v W ok hA⟩
  · exact ⟨_, _, 7, 51, _, _, hm, rfl, enters_of Tryz.func51 (by kernel_rfl) rfl, fun W f hG a v ok hA => marks_show a v W ok hA⟩
end Go.Proofs.YtnldlakcopbpcaaGreatDoor
