/- Contract: Parse. -/
import Derived.Test.YtnldlakcopbpcaaGreatDoorParsed
import Derived.Defers
import Derived.Recover
import Derived.Laws.EntriesVeiled
import Derived.Laws.Pointers
namespace Go.Proofs.YtnldlakcopbpcaaGreatDoor
open Go.RowKit Go.Lib

def zeroAct : Array Value := actCells {} (.slice none 0 0) (.slice none 0 0)
def parseA (line : ByteArray) : ActD := (parseS line).getD {}
def parseE (line : ByteArray) : Int := if (parseS line).isSome then 0 else 380

def ParsePost (line : ByteArray) (w : World) (e : Ending) (w' : World) : Prop :=
  ∃ vb vm, e = .returned (.tuple #[.agg (actCells (parseA line) vb vm), .int .i64 (parseE line)]) ∧ w'.ownsRow w.heap.size 5 1 vb (parseA line).bytes.length ((parseA line).bytes.map u8v) ∧ w'.ownsRow w.heap.size 4 1 vm (parseA line).marks.length ((parseA line).marks.map Value.bool) ∧ Fr [] w w'

theorem store_ten {w : World} {b : Nat} {x0 x1 x2 x3 x4 x5 x6 x7 x8 x9 : Value} {t : TypeId} (h : w.heap[b]? = some (.cells #[x0, x1, x2, x3, x4, x5, x6, x7, x8, x9] t)) (y0 y1 y2 y3 y4 y5 y6 y7 y8 y9 : Value) :
    ((((((((((w.setCell ⟨b, 0, none⟩ y0).setCell ⟨b, 1, none⟩ y1).setCell ⟨b, 2, none⟩ y2).setCell ⟨b, 3, none⟩ y3).setCell ⟨b, 4, none⟩ y4).setCell ⟨b, 5, none⟩ y5).setCell ⟨b, 6, none⟩ y6).setCell ⟨b, 7, none⟩ y7).setCell ⟨b, 8, none⟩ y8).setCell ⟨b, 9, none⟩ y9).heap[b]? = some (.cells #[y0, y1, y2, y3, y4, y5, y6, y7, y8, y9] t) ∧ Fr [b] w ((((((((((w.setCell ⟨b, 0, none⟩ y0).setCell ⟨b, 1, none⟩ y1).setCell ⟨b, 2, none⟩ y2).setCell ⟨b, 3, none⟩ y3).setCell ⟨b, 4, none⟩ y4).setCell ⟨b, 5, none⟩ y5).setCell ⟨b, 6, none⟩ y6).setCell ⟨b, 7, none⟩ y7).setCell ⟨b, 8, none⟩ y8).setCell ⟨b, 9, none⟩ y9) := by
  refine ⟨?_, ((((((((((Fr.refl _ _).setCell _ _ (.inl (by simp))).setCell _ _ (.inl (by simp))).setCell _ _ (.inl (by simp))).setCell _ _ (.inl (by simp))).setCell _ _ (.inl (by simp))).setCell _ _ (.inl (by simp))).setCell _ _ (.inl (by simp))).setCell _ _ (.inl (by simp))).setCell _ _ (.inl (by simp))).setCell _ _ (.inl (by simp))⟩
  have := heap_setCell_same (j := 9) (heap_setCell_same (j := 8) (heap_setCell_same (j := 7) (heap_setCell_same (j := 6) (heap_setCell_same (j := 5) (heap_setCell_same (j := 4) (heap_setCell_same (j := 3) (heap_setCell_same (j := 2) (heap_setCell_same (j := 1) (heap_setCell_same (j := 0) (h) y0) y1) y2) y3) y4) y5) y6) y7) y8) y9
  simpa using this

theorem cells_ten {w : World} {b : Nat} {x0 x1 x2 x3 x4 x5 x6 x7 x8 x9 : Value} {t : TypeId} (h : w.heap[b]? = some (.cells #[x0, x1, x2, x3, x4, x5, x6, x7, x8, x9] t)) :
    w.cell? ⟨b, 0, none⟩ = some x0 ∧ w.cell? ⟨b, 1, none⟩ = some x1 ∧ w.cell? ⟨b, 2, none⟩ = some x2 ∧ w.cell? ⟨b, 3, none⟩ = some x3 ∧ w.cell? ⟨b, 4, none⟩ = some x4 ∧ w.cell? ⟨b, 5, none⟩ = some x5 ∧ w.cell? ⟨b, 6, none⟩ = some x6 ∧ w.cell? ⟨b, 7, none⟩ = some x7 ∧ w.cell? ⟨b, 8, none⟩ = some x8 ∧ w.cell? ⟨b, 9, none⟩ = some x9 ∧ ∀ j, w.frozen? ⟨b, j, none⟩ = false :=
  ⟨cell_of_row w b 0 _ _ _ h, cell_of_row w b 1 _ _ _ h, cell_of_row w b 2 _ _ _ h, cell_of_row w b 3 _ _ _ h, cell_of_row w b 4 _ _ _ h, cell_of_row w b 5 _ _ _ h, cell_of_row w b 6 _ _ _ h, cell_of_row w b 7 _ _ _ h, cell_of_row w b 8 _ _ _ h, cell_of_row w b 9 _ _ _ h, fun j => by unfold World.frozen?; rw [h]; simp⟩

set_option maxRecDepth 100000 in
theorem clear_any (b : Nat) (w : World) {x0 x1 x2 x3 x4 x5 x6 x7 x8 x9 : Value} (h : w.heap[b]? = some (.cells #[x0, x1, x2, x3, x4, x5, x6, x7, x8, x9] 35)) :
    Calls Tryz.prog 17 #[.pointer (some ⟨b, 0, none⟩)] w fun e w' => e = .returned (.tuple #[]) ∧ w'.heap[b]? = some (.cells zeroAct 35) ∧ Fr [b] w w' := by
  obtain ⟨d0, d1, d2, d3, d4, d5, d6, d7, d8, d9, fz⟩ := cells_ten h
  have hb := World.block_lt_of_cell? w _ d0
  have f0 := fz 0; have f1 := fz 1; have f2 := fz 2; have f3 := fz 3; have f4 := fz 4; have f5 := fz 5; have f6 := fz 6; have f7 := fz 7; have f8 := fz 8; have f9 := fz 9
  have hst := store_ten h (.int .i64 0) (.int .i64 0) (.int .i64 0) (.int .i64 0) (.string ⟨#[]⟩) (.string ⟨#[]⟩) (.int .i64 0) (.int .i64 0) (.slice none 0 0) (.slice none 0 0)
  go_enter Tryz.func17, Tryz.ntmps17
  go_wp2_with fail
  go_end0
  exact ⟨rfl, hst⟩

def entry380 (r : Bool) : PanicEntry := { v := .iface 26 (.int .i64 380), recovered := r }

set_option maxRecDepth 100000 in
theorem caught_panicking (q b : Nat) (w : World) {x x0 x1 x2 x3 x4 x5 x6 x7 x8 x9 : Value} (h : w.heap[b]? = some (.cells #[x0, x1, x2, x3, x4, x5, x6, x7, x8, x9] 35)) (hq : w.heap[q]? = some (.cells #[x] 26)) (hne : q ≠ b) :
    CallsD Tryz.prog 16 #[.pointer (some ⟨q, 0, none⟩), .func (.func 17) #[] #[.pointer (some ⟨b, 0, none⟩)]] (.panicking [{ v := .iface 26 (.int .i64 380), recovered := false }]) w fun e u' w' =>
      e = .returned (.tuple #[]) ∧ u' = .panicking [{ v := .iface 26 (.int .i64 380), recovered := true }] ∧ w'.heap[b]? = some (.cells zeroAct 35) ∧ w'.heap[q]? = some (.cells #[.int .i64 380] 26) ∧ Fr [q, b] w w' := by
  have hc : w.cell? ⟨q, 0, none⟩ = some x := cell_of_row w q 0 _ _ _ hq
  have hz : w.frozen? ⟨q, 0, none⟩ = false := by unfold World.frozen?; rw [hq]; simp
  have hta : ∀ w : World, (Instr.typeAssert (.iface 26 (.int .i64 380)) 20 26 false).run Tryz.prog w = .ok (.int .i64 380) w := fun _ => rfl
  have e17 : ∀ args w, (callFunc 17 args).run Tryz.prog w = .ok (.enter 17 args) w := enters_of Tryz.func17 (by kernel_rfl) rfl
  have hq1 : (w.setCell ⟨q, 0, none⟩ (.int .i64 380)).heap[q]? = some (.cells #[.int .i64 380] 26) := by have := heap_setCell_same (j := 0) hq (.int .i64 380); simpa using this
  have f1 : Fr [q] w (w.setCell ⟨q, 0, none⟩ (.int .i64 380)) := (Fr.refl _ _).setCell _ _ (.inl (by simp))
  have hb1 := f1.heap h (by simpa using Ne.symm hne)
  refine callsD_of_wpS Tryz.func16 rfl fun c₀ cs hu => ?_
  apply wpS_seq
  apply wpS_region
  simp [wpOpsS, go_sem, recoverD, hu, Tryz.ntmps16, Exit.thenS]
  refine wpS_of_wp ?_
  go_wp2_with fail
  refine (clear_any b _ hb1).mono ?_
  rintro e w2 ⟨rfl, hb2, f2⟩
  go_wp2_with fail
  have hq2 := f2.heap hq1 (by simpa using hne)
  have hF : Fr [q, b] w w2 := (f1.mono (by simp)).trans (f2.mono (by simp))
  simp [bodyPostS, results, Tryz.results16]
  exact ⟨hb2, hq2, hF⟩

set_option maxRecDepth 100000 in
theorem caught_idle (q b : Nat) (w : World) :
    CallsD Tryz.prog 16 #[.pointer (some ⟨q, 0, none⟩), .func (.func 17) #[] #[.pointer (some ⟨b, 0, none⟩)]] .returning w fun e u' w' =>
      e = .returned (.tuple #[]) ∧ u' = .returning ∧ w = w' := by
  refine callsD_of_wpS Tryz.func16 rfl fun c₀ cs hu => ?_
  apply wpS_seq
  apply wpS_region
  simp [wpOpsS, go_sem, recoverD, hu, Tryz.ntmps16, Exit.thenS]
  refine wpS_of_wp ?_
  go_wp2_with fail
  cases c₀
  simp_all [bodyPostS, results, Tryz.results16]

theorem own_up {w : World} {B B' : Nat} {e : TypeId} {size : Nat} {v : Value} {n : Nat} {xs : List Value} (h : w.ownsRow B e size v n xs) (hB : B' ≤ B) : w.ownsRow B' e size v n xs := by
  refine ⟨h.1, ?_⟩
  rcases h.2 with h' | ⟨g, cap, cur, rfl, hg, hh, r⟩
  · exact .inl h'
  · exact .inr ⟨g, cap, cur, rfl, Nat.le_trans hB hg, hh, r⟩

set_option maxRecDepth 100000 in
theorem parse_any {B : Nat} (line : ByteArray) (w : World) (hG : Gl B w) (hs : line.size ≤ 1000000) : Calls Tryz.prog 9 #[.string line] w (ParsePost line w) := by
  have hmf : ∀ (fn : Fn) (first cap : Array Value) (w : World), (Instr.makeFunc fn first cap).run Tryz.prog w = .ok (.func fn first cap) w := fun _ _ _ _ => rfl
  obtain ⟨hq0, hq1, hf0⟩ : ((w.alloc (.cells #[.int .i64 0, .int .i64 0, .int .i64 0, .int .i64 0, .string ⟨#[]⟩, .string ⟨#[]⟩, .int .i64 0, .int .i64 0, .slice none 0 0, .slice none 0 0] 35)).alloc (.cells #[.int .i64 0] 26)).heap[w.heap.size]? = some (.cells #[.int .i64 0, .int .i64 0, .int .i64 0, .int .i64 0, .string ⟨#[]⟩, .string ⟨#[]⟩, .int .i64 0, .int .i64 0, .slice none 0 0, .slice none 0 0] 35) ∧ ((w.alloc (.cells #[.int .i64 0, .int .i64 0, .int .i64 0, .int .i64 0, .string ⟨#[]⟩, .string ⟨#[]⟩, .int .i64 0, .int .i64 0, .slice none 0 0, .slice none 0 0] 35)).alloc (.cells #[.int .i64 0] 26)).heap[w.heap.size + 1]? = some (.cells #[.int .i64 0] 26) ∧ Fr [] w ((w.alloc (.cells #[.int .i64 0, .int .i64 0, .int .i64 0, .int .i64 0, .string ⟨#[]⟩, .string ⟨#[]⟩, .int .i64 0, .int .i64 0, .slice none 0 0, .slice none 0 0] 35)).alloc (.cells #[.int .i64 0] 26)) := by
    refine ⟨heap_later (alloc_heap_new w _), ?_, ((Fr.refl [] _).alloc _).alloc _⟩
    have := alloc_heap_new (w.alloc (.cells #[.int .i64 0, .int .i64 0, .int .i64 0, .int .i64 0, .string ⟨#[]⟩, .string ⟨#[]⟩, .int .i64 0, .int .i64 0, .slice none 0 0, .slice none 0 0] 35)) (.cells #[.int .i64 0] 26)
    rwa [World.size_alloc] at this
  have hsz1 : ((w.alloc (.cells #[.int .i64 0, .int .i64 0, .int .i64 0, .int .i64 0, .string ⟨#[]⟩, .string ⟨#[]⟩, .int .i64 0, .int .i64 0, .slice none 0 0, .slice none 0 0] 35)).alloc (.cells #[.int .i64 0] 26)).heap.size = w.heap.size + 1 + 1 := by simp
  go_enter_defers Tryz.func9, Tryz.ntmps9
  go_wp2_with fail
  generalize ((w.alloc (.cells #[.int .i64 0, .int .i64 0, .int .i64 0, .int .i64 0, .string ⟨#[]⟩, .string ⟨#[]⟩, .int .i64 0, .int .i64 0, .slice none 0 0, .slice none 0 0] 35)).alloc (.cells #[.int .i64 0] 26)) = w1 at hq0 hq1 hf0 hsz1 ⊢
  refine (parsed_any (B := B) line w1 (hG.fr0 hf0) hs).mono ?_
  rintro e w2 (⟨a, vb, vm, ha, rfl, ob, om, f2a⟩ | ⟨ha, rfl, f2⟩)
  · obtain ⟨p1, l1, rfl⟩ := own_slice ob
    obtain ⟨p2, l2, rfl⟩ := own_slice om
    have h0 := f2a.heap hq0 (by simp)
    have h1 := f2a.heap hq1 (by simp)
    have hst := store_ten h0 (.int .i64 a.kind) (.int .i64 a.thread) (.int .i64 a.n) (.int .i64 a.opk) (.string a.path) (.string a.dest) (.int .i64 a.at_) (.int .i64 a.opn) (.slice p1 a.bytes.length l1) (.slice p2 a.marks.length l2)
    obtain ⟨d0, d1, d2, d3, d4, d5, d6, d7, d8, d9, fz⟩ := cells_ten h0
    have f0 := fz 0; have f1 := fz 1; have f2 := fz 2; have f3 := fz 3; have f4 := fz 4; have f5 := fz 5; have f6 := fz 6; have f7 := fz 7; have f8 := fz 8; have f9 := fz 9
    have hc1 : w2.cell? ⟨w.heap.size + 1, 0, none⟩ = some (.int .i64 0) := cell_of_row w2 _ 0 _ _ _ h1
    have hz1 : w2.frozen? ⟨w.heap.size + 1, 0, none⟩ = false := by unfold World.frozen?; rw [h1]; simp
    have b0 := World.block_lt_of_cell? w2 _ d0
    have b1 := World.block_lt_of_cell? w2 _ hc1
    unfold actCells
    go_wp2_with fail
    obtain ⟨hst1, hst2⟩ := hst
    refine leaves_cons (f := 16) (args := #[.pointer (some ⟨w.heap.size + 1, 0, none⟩), .func (.func 17) #[] #[.pointer (some ⟨w.heap.size, 0, none⟩)]]) (by simp) (by simp [go_sem]) ?_
    refine (caught_idle (w.heap.size + 1) w.heap.size _).mono ?_
    rintro e u' w3 ⟨rfl, rfl, hw3⟩
    have ob1 := ownsRow_fr ob hst2 (own_ne ob h0 (by decide))
    have om1 := ownsRow_fr om hst2 (own_ne om h0 (by decide))
    have h11 := hst2.heap h1 (by simp)
    have hf3 := hf0.trans f2a
    have hf4 : Fr [] w _ := hf3.then hst2 (fun x hx => by simp at hx; subst hx; exact .inr (Nat.le_refl _))
    clear hst2 f2a d0 d1 d2 d3 d4 d5 d6 d7 d8 d9 fz f0 f1 f2 f3 f4 f5 f6 f7 f8 f9 hz1 hc1
    revert hw3 hst1 ob1 om1 h11 hf4
    generalize World.setCell (World.setCell (World.setCell (World.setCell (World.setCell (World.setCell (World.setCell (World.setCell (World.setCell (World.setCell w2 _ _) _ _) _ _) _ _) _ _) _ _) _ _) _ _) _ _) _ _ = wc
    intro hst1 hw3 ob1 om1 h11 hf4
    have f3 : Fr [w.heap.size + 1] wc (wc.setCell ⟨w.heap.size + 1, 0, none⟩ (.int .i64 0)) := (Fr.refl _ _).setCell _ _ (.inl (by simp))
    have h12 := heap_setCell_same (j := 0) h11 (.int .i64 0)
    have hst3 := f3.heap hst1 (by simp)
    have ob2 := own_up (ownsRow_fr ob1 f3 (own_ne ob1 h11 (by decide))) (B' := w.heap.size) (by omega)
    have om2 := own_up (ownsRow_fr om1 f3 (own_ne om1 h11 (by decide))) (B' := w.heap.size) (by omega)
    have hf5 := hf4.then f3 (fun x hx => by simp at hx; subst hx; exact .inr (Nat.le_succ _))
    rw [hw3] at h12 hst3 ob2 om2 hf5
    obtain ⟨g0, g1, g2, g3, g4, g5, g6, g7, g8, g9, _⟩ := cells_ten hst3
    have gc1 : w3.cell? ⟨w.heap.size + 1, 0, none⟩ = some (.int .i64 0) := cell_of_row w3 _ 0 _ _ _ h12
    have hp : ParsePost line w (.returned (.tuple #[.agg (actCells a (.slice p1 a.bytes.length l1) (.slice p2 a.marks.length l2)), .int .i64 0])) w3 := by
      refine ⟨.slice p1 a.bytes.length l1, .slice p2 a.marks.length l2, ?_, ?_, ?_, hf5⟩
      · simp [parseA, parseE, ha]
      · simpa [parseA, ha] using ob2
      · simpa [parseA, ha] using om2
    simp [Leaves, settle, results, Tryz.results9, go_sem, g0, g1, g2, g3, g4, g5, g6, g7, g8, g9, gc1]
    exact hp
  · have h0 := f2.heap hq0 (by simp)
    have h1 := f2.heap hq1 (by simp)
    go_wp2_with fail
    refine leaves_cons (f := 16) (args := #[.pointer (some ⟨w.heap.size + 1, 0, none⟩), .func (.func 17) #[] #[.pointer (some ⟨w.heap.size, 0, none⟩)]]) (by simp) (by simp [go_sem]) ?_
    refine (caught_panicking (w.heap.size + 1) w.heap.size _ h0 h1 (by omega)).mono ?_
    rintro e u' w3 ⟨rfl, rfl, h03, h13, f3⟩
    obtain ⟨d0, d1, d2, d3, d4, d5, d6, d7, d8, d9, fz⟩ := cells_ten h03
    have hc1 : w3.cell? ⟨w.heap.size + 1, 0, none⟩ = some (.int .i64 380) := cell_of_row w3 _ 0 _ _ _ h13
    have hp : ParsePost line w (.returned (.tuple #[.agg zeroAct, .int .i64 380])) w3 := by
      refine ⟨.slice none 0 0, .slice none 0 0, ?_, ?_, ?_, (hf0.trans f2).then f3 (fun x hx => ?_)⟩
      · simp [parseA, parseE, ha, zeroAct]
      · simp only [parseA, ha]; exact ⟨rfl, .inl ⟨rfl, rfl⟩⟩
      · simp only [parseA, ha]; exact ⟨rfl, .inl ⟨rfl, rfl⟩⟩
      · simp at hx; rcases hx with rfl | rfl
        · exact .inr (by omega)
        · exact .inr (Nat.le_refl _)
    simp [Leaves, settle, results, Tryz.results9, go_sem, d0, d1, d2, d3, d4, d5, d6, d7, d8, d9, hc1]
    exact hp

end Go.Proofs.YtnldlakcopbpcaaGreatDoor
