/- What script.Same is walked with. -/
import Derived.Test.YtnldlakcopbpcaaGreatDoorEqual
import Derived.Test.YtnldlakcopbpcaaGreatDoorLaid
import Derived.BigRegion
import Derived.BigQuiet
import Derived.Deep.QuietTactic
namespace Go.Proofs.YtnldlakcopbpcaaGreatDoor
open Go.RowKit Go.Lib

def asksB (k : Int) : Bool := decide (1 ≤ k) && decide (k ≤ 3)

set_option maxRecDepth 100000 in
theorem asks_any (k : Int) (w : World) : Calls Tryz.prog 21 #[.int .i64 k] w fun e w' => e = .returned (.bool (asksB k)) ∧ w = w' := by
  by_cases h : 1 ≤ k
  · by_cases h3 : k ≤ 3
    · have q1 : decide (1 ≤ k) = true := decide_eq_true h
      have q2 : decide (k ≤ 3) = true := decide_eq_true h3
      have q3 : asksB k = true := by simp [asksB, h, h3]
      rw [q3]
      go_enter Tryz.func21, Tryz.ntmps21
      go_wp2_with fail
      go_ret
      exact ⟨rfl, rfl⟩
    · have q1 : decide (1 ≤ k) = true := decide_eq_true h
      have q2 : decide (k ≤ 3) = false := decide_eq_false h3
      have q3 : asksB k = false := by simp [asksB, h3]
      rw [q3]
      go_enter Tryz.func21, Tryz.ntmps21
      go_wp2_with fail
      go_ret
      exact ⟨rfl, rfl⟩
  · have q1 : decide (1 ≤ k) = false := decide_eq_false h
    have q3 : asksB k = false := by simp [asksB, h]
    rw [q3]
    go_enter Tryz.func21, Tryz.ntmps21
    go_wp2_with fail
    go_ret
    exact ⟨rfl, rfl⟩

def opCells (a : ActD) (vb : Value) : Array Value := #[.int .i64 a.opk, .string a.path, .string a.dest, .int .i64 a.at_, .int .i64 a.opn, vb]
theorem op_cells {w : World} {b : Nat} {a : ActD} {vb : Value} (h : w.heap[b]? = some (.cells (opCells a vb) 32)) :
    w.cell? ⟨b, 0, none⟩ = some (.int .i64 a.opk) ∧ w.cell? ⟨b, 1, none⟩ = some (.string a.path) ∧ w.cell? ⟨b, 2, none⟩ = some (.string a.dest) ∧ w.cell? ⟨b, 3, none⟩ = some (.int .i64 a.at_) ∧ w.cell? ⟨b, 4, none⟩ = some (.int .i64 a.opn) ∧ w.cell? ⟨b, 5, none⟩ = some vb :=
  ⟨cell_of_row w b 0 _ _ _ h, cell_of_row w b 1 _ _ _ h, cell_of_row w b 2 _ _ _ h, cell_of_row w b 3 _ _ _ h, cell_of_row w b 4 _ _ _ h, cell_of_row w b 5 _ _ _ h⟩

theorem act_ext {a a' : ActD} (h0 : a.kind = a'.kind) (h1 : a.thread = a'.thread) (h2 : a.n = a'.n) (h3 : a.marks = a'.marks) (h4 : a.opk = a'.opk) (h5 : a.path = a'.path) (h6 : a.dest = a'.dest) (h7 : a.at_ = a'.at_) (h8 : a.opn = a'.opn) (h9 : a.bytes = a'.bytes) : a = a' := by
  cases a; cases a'; simp_all

def SCut (a a' : ActD) (vb vb' : Value) (A A' : Array Value) (w : World) (s5 s6 : Value) (wx : World) : Prop :=
  ∃ p q, s5 = .pointer (some ⟨p, 0, none⟩) ∧ s6 = .pointer (some ⟨q, 0, none⟩) ∧ Hid (wx.heap[p]? = some (.cells (opCells a vb) 32)) ∧ Hid (wx.heap[q]? = some (.cells (opCells a' vb') 32)) ∧
    Hid (wx.heap[w.heap.size]? = some (.cells A 35)) ∧ Hid (wx.heap[w.heap.size + 1]? = some (.cells A' 35)) ∧ Hid (Fr [] w wx)

def SamePost (a a' : ActD) (w : World) (e : Ending) (w' : World) : Prop := ∃ r : Bool, e = .returned (.bool r) ∧ (r = true ↔ a = a') ∧ Fr [] w w'

theorem eqb_q {xs ys : List Bool} {v v' : Value} {w W : World} {n : Nat} {r : Bool} (hv : RowAt W v (xs.map Value.bool)) (hv' : RowAt W v' (ys.map Value.bool)) (hx : xs.length ≤ 80) (hy : ys.length ≤ 80) (F : Fr [] W w) (h : decide (xs = ys) = r) :
    Calls Tryz.prog 19 #[v, v'] (w.drewN n) fun e w'' => e = .returned (.bool r) ∧ ∃ m, w'' = w.drewN m :=
  Calls.quiet_of (by rw [← h]; exact eqb_any xs ys v v' (w.drewN n) (hv.fr0 (F.drewN n)) (hv'.fr0 (F.drewN n)) (Nat.le_trans hx (by decide)) (Nat.le_trans hy (by decide)))
theorem eqy_q {xs ys : List Nat} {v v' : Value} {w W : World} {n : Nat} {r : Bool} (hv : RowAt W v (xs.map u8v)) (hv' : RowAt W v' (ys.map u8v)) (hx : xs.length ≤ 500) (hy : ys.length ≤ 500) (F : Fr [] W w) (h : decide (xs = ys) = r) :
    Calls Tryz.prog 20 #[v, v'] (w.drewN n) fun e w'' => e = .returned (.bool r) ∧ ∃ m, w'' = w.drewN m :=
  Calls.quiet_of (by rw [← h]; exact eqy_any xs ys v v' (w.drewN n) (hv.fr0 (F.drewN n)) (hv'.fr0 (F.drewN n)) (Nat.le_trans hx (by decide)) (Nat.le_trans hy (by decide)))

theorem scut1 {a a' : ActD} {vb vb' : Value} {A A' : Array Value} {w wp : World} (F : Fr [] w wp) (h0 : wp.heap[w.heap.size]? = some (.cells A 35)) (h1 : wp.heap[w.heap.size + 1]? = some (.cells A' 35)) :
    SCut a a' vb vb' A A' w (.pointer (some ⟨wp.heap.size, 0, none⟩)) (.pointer (some ⟨wp.heap.size + 1, 0, none⟩)) ((wp.alloc (.cells (opCells a vb) 32)).alloc (.cells (opCells a' vb') 32)).drew :=
  ⟨_, _, rfl, rfl, Lib.hid (heap_later (alloc_heap_new wp _)), Lib.hid (by have := alloc_heap_new (wp.alloc (.cells (opCells a vb) 32)) (.cells (opCells a' vb') 32); rwa [World.size_alloc] at this),
    Lib.hid (heap_later (heap_later h0)), Lib.hid (heap_later (heap_later h1)), Lib.hid ((F.alloc _).alloc _).drew⟩
theorem scut2 {a a' : ActD} {vb vb' : Value} {A A' : Array Value} {w wp : World} (F : Fr [] w wp) (h0 : wp.heap[w.heap.size]? = some (.cells A 35)) (h1 : wp.heap[w.heap.size + 1]? = some (.cells A' 35)) :
    SCut a a' vb vb' A A' w (.pointer (some ⟨wp.heap.size + 1, 0, none⟩)) (.pointer (some ⟨wp.heap.size, 0, none⟩)) ((wp.alloc (.cells (opCells a' vb') 32)).alloc (.cells (opCells a vb) 32)).drew :=
  ⟨_, _, rfl, rfl, Lib.hid (by have := alloc_heap_new (wp.alloc (.cells (opCells a' vb') 32)) (.cells (opCells a vb) 32); rwa [World.size_alloc] at this), Lib.hid (heap_later (alloc_heap_new wp _)),
    Lib.hid (heap_later (heap_later h0)), Lib.hid (heap_later (heap_later h1)), Lib.hid ((F.alloc _).alloc _).drew⟩
end Go.Proofs.YtnldlakcopbpcaaGreatDoor
