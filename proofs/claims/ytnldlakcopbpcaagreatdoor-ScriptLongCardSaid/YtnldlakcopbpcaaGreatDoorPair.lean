/- Contracts: the two digits of a byte. -/
import Derived.Test.YtnldlakcopbpcaaGreatDoorNum
import Derived.BigQuiet
import Derived.Laws.BytesArg
import Derived.Deep.QuietTactic
namespace Go.Proofs.YtnldlakcopbpcaaGreatDoor
open Go.RowKit Go.Lib

set_option maxRecDepth 100000 in
theorem masks_any (f : Int) (hf : f = 0 ∨ f = 4) (w : World) :
    Calls Tryz.prog 93 #[.agg #[.int .i64 f, .int .i64 4]] w fun e w' => (∃ u, e = .returned (.agg #[.int .u64 15, .int .u64 u])) ∧ Fr [] w w' := by
  rcases hf with rfl | rfl
  · go_enter Tryz.func93, Tryz.ntmps93
    go_wp2_with fail
    exact bodyPost_ret (v := .agg #[.int .u64 15, .int .u64 15]) (by simp [results, Tryz.results93, go_sem]) rfl ⟨⟨_, rfl⟩, ((Fr.refl [] w).alloc _).alloc _⟩
  · go_enter Tryz.func93, Tryz.ntmps93
    go_wp2_with fail
    exact bodyPost_ret (v := .agg #[.int .u64 15, .int .u64 240]) (by simp [results, Tryz.results93, go_sem]) rfl ⟨⟨_, rfl⟩, ((Fr.refl [] w).alloc _).alloc _⟩

set_option maxRecDepth 100000 in
theorem right_any (f : Int) (hf : f = 0 ∨ f = 4) (w : World) :
    Calls Tryz.prog 75 #[.agg #[.int .i64 f, .int .i64 4]] w fun e w' => e = .returned (.bool true) ∧ Fr [] w w' := by
  rcases hf with rfl | rfl
  · go_enter Tryz.func75, Tryz.ntmps75
    go_wp2_with fail
    go_ret
    exact ⟨rfl, (Fr.refl [] w).alloc _⟩
  · go_enter Tryz.func75, Tryz.ntmps75
    go_wp2_with fail
    go_ret
    exact ⟨rfl, (Fr.refl [] w).alloc _⟩

theorem low4 (c : Int) (hc : 0 ≤ c ∧ c < 256) : 0 ≤ bits BinOp.and IntKind.u64 c 15 ∧ bits BinOp.and IntKind.u64 c 15 < 16 := by
  have h : ∀ c : Fin 256, 0 ≤ bits BinOp.and IntKind.u64 (c.val : Int) 15 ∧ bits BinOp.and IntKind.u64 (c.val : Int) 15 < 16 := by decide +kernel
  have := h ⟨c.toNat, by omega⟩
  simpa [Int.toNat_of_nonneg hc.1] using this

set_option maxRecDepth 100000 in
set_option maxHeartbeats 2000000 in
theorem of_any (f : Int) (hf : f = 0 ∨ f = 4) (c : Int) (hc : 0 ≤ c ∧ c < 256) (w : World) :
    Calls Tryz.prog 76 #[.agg #[.int .i64 f, .int .i64 4], .int .u64 c] w fun e w' => (∃ d : Int, 0 ≤ d ∧ d < 16 ∧ e = .returned (.int .u64 d)) ∧ Fr [] w w' := by
  rcases hf with rfl | rfl
  · have h0 : (w.alloc (.cells #[.int .i64 0, .int .i64 4] 126)).cell? ⟨w.heap.size, 0, none⟩ = some (.int .i64 0) := cell_of_row _ _ 0 _ _ _ (alloc_heap_new w _)
    have h1 : (w.alloc (.cells #[.int .i64 0, .int .i64 4] 126)).cell? ⟨w.heap.size, 1, none⟩ = some (.int .i64 4) := cell_of_row _ _ 1 _ _ _ (alloc_heap_new w _)
    have hix : ∀ (u : Int) (W : World), (Instr.index 141 (.agg #[.int .u64 15, .int .u64 u]) (.int .i64 0)).run Tryz.prog W = .ok (.int .u64 15) W := fun u W => by kernel_rfl
    have hfr : Fr [] w (w.alloc (.cells #[.int .i64 0, .int .i64 4] 126)) := (Fr.refl [] w).alloc _
    go_enter Tryz.func76, Tryz.ntmps76
    go_wp2_with fail
    generalize w.alloc (.cells #[.int .i64 0, .int .i64 4] 126) = w1 at h0 h1 hfr ⊢
    go_region_with (go_at_call 93; refine (masks_any 0 (.inl rfl) _).mono ?_; rintro e w2 ⟨⟨u, rfl⟩, f2⟩; (have h0' := f2.cell0 (p := ⟨w.heap.size, 0, none⟩) (by simpa using h0)); (have h1' := f2.cell0 (p := ⟨w.heap.size, 1, none⟩) (by simpa using h1)); (have f3 := hfr.drew.trans f2))
    all_goals go_wp2_with fail
    all_goals go_ret
    all_goals exact ⟨⟨_, (low4 _ hc).1, (low4 _ hc).2, rfl⟩, f3⟩
  · have h0 : (w.alloc (.cells #[.int .i64 4, .int .i64 4] 126)).cell? ⟨w.heap.size, 0, none⟩ = some (.int .i64 4) := cell_of_row _ _ 0 _ _ _ (alloc_heap_new w _)
    have h1 : (w.alloc (.cells #[.int .i64 4, .int .i64 4] 126)).cell? ⟨w.heap.size, 1, none⟩ = some (.int .i64 4) := cell_of_row _ _ 1 _ _ _ (alloc_heap_new w _)
    have hix : ∀ (u : Int) (W : World), (Instr.index 141 (.agg #[.int .u64 15, .int .u64 u]) (.int .i64 0)).run Tryz.prog W = .ok (.int .u64 15) W := fun u W => by kernel_rfl
    have hfr : Fr [] w (w.alloc (.cells #[.int .i64 4, .int .i64 4] 126)) := (Fr.refl [] w).alloc _
    go_enter Tryz.func76, Tryz.ntmps76
    go_wp2_with fail
    generalize w.alloc (.cells #[.int .i64 4, .int .i64 4] 126) = w1 at h0 h1 hfr ⊢
    go_region_with (go_at_call 93; refine (masks_any 4 (.inr rfl) _).mono ?_; rintro e w2 ⟨⟨u, rfl⟩, f2⟩; (have h0' := f2.cell0 (p := ⟨w.heap.size, 0, none⟩) (by simpa using h0)); (have h1' := f2.cell0 (p := ⟨w.heap.size, 1, none⟩) (by simpa using h1)); (have f3 := hfr.drew.trans f2))
    all_goals go_wp2_with fail
    all_goals go_ret
    all_goals (refine ⟨⟨_, ?_, ?_, rfl⟩, f3⟩ <;> first | exact (low4 _ (by omega)).1 | exact (low4 _ (by omega)).2)

set_option maxRecDepth 100000 in
theorem get_any (f : Int) (hf : f = 0 ∨ f = 4) (c : Int) (hc : 0 ≤ c ∧ c < 256) (w : World) :
    Calls Tryz.prog 65 #[.int .u64 c, .agg #[.int .i64 f, .int .i64 4]] w fun e w' => (∃ d : Int, 0 ≤ d ∧ d < 16 ∧ e = .returned (.tuple #[.int .u64 d, .int .i64 0])) ∧ Fr [] w w' := by
  go_enter Tryz.func65, Tryz.ntmps65
  go_wp2_with fail
  refine (right_any f hf _).mono ?_
  rintro e w2 ⟨rfl, f2⟩
  have hfr : Fr [] w w2 := (((Fr.refl [] w).alloc _).alloc _).trans f2
  have h2 : w2.heap[w.heap.size + 1]? = some (.cells #[.int .i64 f, .int .i64 4] 126) := by
    refine f2.heap ?_ (by simp)
    have := alloc_heap_new (w.alloc (.cells #[.int .i64 f, .int .i64 4] 116)) (.cells #[.int .i64 f, .int .i64 4] 126)
    rwa [World.size_alloc] at this
  have d0 : w2.cell? ⟨w.heap.size + 1, 0, none⟩ = some (.int .i64 f) := cell_of_row _ _ 0 _ _ _ h2
  have d1 : w2.cell? ⟨w.heap.size + 1, 1, none⟩ = some (.int .i64 4) := cell_of_row _ _ 1 _ _ _ h2
  go_wp2_with fail
  refine (of_any f hf c hc _).mono ?_
  rintro e w3 ⟨⟨d, hd0, hd1, rfl⟩, f3⟩
  go_wp2_with fail
  exact bodyPost_ret (v := .tuple #[.int .u64 d, .int .i64 0]) (by simp [results, Tryz.results65, go_sem]) rfl ⟨⟨d, hd0, hd1, rfl⟩, hfr.trans f3⟩

def PairPost (w : World) (e : Ending) (w' : World) : Prop := ∃ s : ByteArray, s.size = 2 ∧ e = .returned (.string s) ∧ Fr [] w w'

set_option maxRecDepth 100000 in
set_option maxHeartbeats 2000000 in
theorem pair_any (c : Int) (hc : 0 ≤ c ∧ c < 256) (w : World) : Calls Tryz.prog 48 #[.int .u8 c] w (PairPost w) := by
  have hd : ∀ d : Int, 0 ≤ d → d < 16 → ∃ x : Nat, x < 256 ∧ ∀ W, (Instr.index 9 (.string ⟨#[48, 49, 50, 51, 52, 53, 54, 55, 56, 57, 97, 98, 99, 100, 101, 102]⟩) (.int .u64 d)).run Tryz.prog W = .ok (.int .u8 (x : Int)) W := by
    intro d h0 h1
    obtain ⟨k, rfl⟩ : ∃ k : Nat, d = (k : Int) := ⟨d.toNat, by omega⟩
    have hk : k < 16 := by omega
    have : k = 0 ∨ k = 1 ∨ k = 2 ∨ k = 3 ∨ k = 4 ∨ k = 5 ∨ k = 6 ∨ k = 7 ∨ k = 8 ∨ k = 9 ∨ k = 10 ∨ k = 11 ∨ k = 12 ∨ k = 13 ∨ k = 14 ∨ k = 15 := by omega
    rcases this with rfl | rfl | rfl | rfl | rfl | rfl | rfl | rfl | rfl | rfl | rfl | rfl | rfl | rfl | rfl | rfl
    · exact ⟨48, by decide, fun W => by kernel_rfl⟩
    · exact ⟨49, by decide, fun W => by kernel_rfl⟩
    · exact ⟨50, by decide, fun W => by kernel_rfl⟩
    · exact ⟨51, by decide, fun W => by kernel_rfl⟩
    · exact ⟨52, by decide, fun W => by kernel_rfl⟩
    · exact ⟨53, by decide, fun W => by kernel_rfl⟩
    · exact ⟨54, by decide, fun W => by kernel_rfl⟩
    · exact ⟨55, by decide, fun W => by kernel_rfl⟩
    · exact ⟨56, by decide, fun W => by kernel_rfl⟩
    · exact ⟨57, by decide, fun W => by kernel_rfl⟩
    · exact ⟨97, by decide, fun W => by kernel_rfl⟩
    · exact ⟨98, by decide, fun W => by kernel_rfl⟩
    · exact ⟨99, by decide, fun W => by kernel_rfl⟩
    · exact ⟨100, by decide, fun W => by kernel_rfl⟩
    · exact ⟨101, by decide, fun W => by kernel_rfl⟩
    · exact ⟨102, by decide, fun W => by kernel_rfl⟩
  go_enter Tryz.func48, Tryz.ntmps48
  go_wp2_with fail
  refine (get_any 4 (.inr rfl) c hc _).mono ?_
  rintro e w2 ⟨⟨d, hd0, hd1, rfl⟩, f2⟩
  go_wp2_with fail
  refine (get_any 0 (.inl rfl) c hc _).mono ?_
  rintro e w3 ⟨⟨g, hg0, hg1, rfl⟩, f3⟩
  obtain ⟨x, hx, hix⟩ := hd d hd0 hd1
  obtain ⟨y, hy, hiy⟩ := hd g hg0 hg1
  go_wp2_with fail
  have hcv : (convert 23 9 (.slice (some ⟨w3.heap.size, 0, none⟩) 2 2)).run Tryz.prog (w3.alloc (.cells #[.int .u8 x, .int .u8 y] 5)).drew = .ok (.string (strOfNums [(x : Int), (y : Int)])) (w3.alloc (.cells #[.int .u8 x, .int .u8 y] 5)).drew := by
    refine run_convert_bytes_arg _ 23 5 Tryz.underlying23 Tryz.underlying5 w3.heap.size 0 2 2 [(x : Int), (y : Int)] rfl (fun i hi => ?_) 9 Tryz.underlying9
    have hh : (w3.alloc (.cells #[.int .u8 x, .int .u8 y] 5)).drew.heap[w3.heap.size]? = some (.cells #[.int .u8 x, .int .u8 y] 5) := alloc_heap_new _ _
    have : i = 0 ∨ i = 1 := by omega
    rcases this with rfl | rfl
    · exact cell_of_row _ _ 0 _ _ _ hh
    · exact cell_of_row _ _ 1 _ _ _ hh
  have hfr : Fr [] w (w3.alloc (.cells #[.int .u8 x, .int .u8 y] 5)).drew := ((f2.trans f3).alloc _).drew
  go_region
  all_goals go_wp2_with fail
  all_goals go_ret
  all_goals exact ⟨_, rfl, rfl, hfr⟩

set_option maxRecDepth 100000 in
theorem bit_any (b : Bool) (w : World) : Calls Tryz.prog 53 #[.bool b] w fun e w' => (∃ s : ByteArray, s.size = 1 ∧ e = .returned (.string s)) ∧ w = w' := by
  cases b
  · go_enter Tryz.func53, Tryz.ntmps53
    go_wp2_with fail
    go_ret
    exact ⟨⟨_, rfl, rfl⟩, rfl⟩
  · go_enter Tryz.func53, Tryz.ntmps53
    go_wp2_with fail
    go_ret
    exact ⟨⟨_, rfl, rfl⟩, rfl⟩

end Go.Proofs.YtnldlakcopbpcaaGreatDoor
