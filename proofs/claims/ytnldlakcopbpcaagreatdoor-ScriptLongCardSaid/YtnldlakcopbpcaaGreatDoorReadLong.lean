/- Contract: Read of a text that is too long. -/
import Derived.Test.YtnldlakcopbpcaaGreatDoorRead
import Derived.ScopeJumps
namespace Go.Proofs.YtnldlakcopbpcaaGreatDoor
open Go.RowKit Go.Lib Go.Shelf
attribute [local go_sem] Oper.semAt_some

theorem three_in {W : World} {bo : Nat} {u1 u2 u3 : Value} {t1 t2 t3 : TypeId} (g1 : Boxed W bo t1 u1) (g2 : Boxed W (bo + 1) t2 u2) (g3 : Boxed W (bo + 2) t3 u3) (x1 x2 x3 : Value) :
    Boxed (((W.setCell ⟨bo, 0, none⟩ x1).setCell ⟨bo + 1, 0, none⟩ x2).setCell ⟨bo + 1 + 1, 0, none⟩ x3) bo t1 x1 ∧ Boxed (((W.setCell ⟨bo, 0, none⟩ x1).setCell ⟨bo + 1, 0, none⟩ x2).setCell ⟨bo + 1 + 1, 0, none⟩ x3) (bo + 1) t2 x2 ∧
    Boxed (((W.setCell ⟨bo, 0, none⟩ x1).setCell ⟨bo + 1, 0, none⟩ x2).setCell ⟨bo + 1 + 1, 0, none⟩ x3) (bo + 2) t3 x3 ∧
    Fr [bo, bo + 1, bo + 2] W (((W.setCell ⟨bo, 0, none⟩ x1).setCell ⟨bo + 1, 0, none⟩ x2).setCell ⟨bo + 1 + 1, 0, none⟩ x3) := by
  have k : ∀ {W : World} {b b' : Nat} {t : TypeId} {u : Value} (x : Value), Boxed W b t u → b ≠ b' → Boxed (W.setCell ⟨b', 0, none⟩ x) b t u := fun x h hb => h.kept (grownBy_setCell' _ _ x) (by simpa using hb)
  exact ⟨(k _ (k _ (g1.set x1) (by omega)) (by omega)), (k _ ((k _ g2 (by omega)).set x2) (by omega)), ((k _ (k _ g3 (by omega)) (by omega)).set x3),
    (((Fr.refl _ W).setCell _ _ (.inl (by simp))).setCell _ _ (.inl (by simp))).setCell _ _ (.inl (by simp))⟩

set_option maxRecDepth 100000 in
set_option maxHeartbeats 2000000 in
theorem read_long (text : ByteArray) (w : World) (hs : 65536 < text.size) : Calls Tryz.prog 11 #[.string text] w fun e w' => e = .returned (.tuple #[.slice none 0 0, .int .i64 0, .int .i64 3]) ∧ Fr [] w w' := by
  have t1 : decide ((65536 : Int) < (text.size : Int)) = true := decide_eq_true (by omega)
  refine callsIn_wide.1 (callsIn_of_wp_marks (n := 6) Tryz.func11 rfl trivial ?_ rfl)
  refine wpIn_wide.2 ?_
  simp only [Tryz.ntmps11, List.size_toArray, List.length_cons, List.length_nil, Nat.reduceAdd, Nat.reduceSub, Array.replicate_succ, Array.replicate_zero, List.push_toArray, List.append_toArray, List.nil_append, List.cons_append]
  go_wp2_with fail
  have q1 : Boxed (((w.alloc (.cells #[.slice none 0 0] 22)).alloc (.cells #[.int .i64 0] 3)).alloc (.cells #[.int .i64 0] 26)) w.heap.size 22 (.slice none 0 0) := ((Boxed.new w 22 _).alloc _).alloc _
  have q2 : Boxed (((w.alloc (.cells #[.slice none 0 0] 22)).alloc (.cells #[.int .i64 0] 3)).alloc (.cells #[.int .i64 0] 26)) (w.heap.size + 1) 3 (.int .i64 0) := by
    have := Boxed.new (w.alloc (.cells #[.slice none 0 0] 22)) 3 (.int .i64 0)
    rw [World.size_alloc] at this
    exact this.alloc _
  have q3 : Boxed (((w.alloc (.cells #[.slice none 0 0] 22)).alloc (.cells #[.int .i64 0] 3)).alloc (.cells #[.int .i64 0] 26)) (w.heap.size + 2) 26 (.int .i64 0) := by
    have := Boxed.new ((w.alloc (.cells #[.slice none 0 0] 22)).alloc (.cells #[.int .i64 0] 3)) 26 (.int .i64 0)
    rw [World.size_alloc, World.size_alloc] at this
    exact this
  have qf : Fr [] w (((w.alloc (.cells #[.slice none 0 0] 22)).alloc (.cells #[.int .i64 0] 3)).alloc (.cells #[.int .i64 0] 26)) := (((Fr.refl [] w).alloc _).alloc _).alloc _
  generalize (((w.alloc (.cells #[.slice none 0 0] 22)).alloc (.cells #[.int .i64 0] 3)).alloc (.cells #[.int .i64 0] 26)) = w1 at *
  have c1 := q1.cell; have c2 := q2.cell; have c3 := q3.cell
  have c4 := q1.frozen; have c5 := q2.frozen; have c6 := q3.frozen
  refine wp_scope_jumps 0 (fun a' w' => w' = w1 ∧ a' = { tmps := #[.string text, undef, .pointer (some ⟨w.heap.size, 0, none⟩), .pointer (some ⟨w.heap.size + 1, 0, none⟩), .pointer (some ⟨w.heap.size + 1 + 1, 0, none⟩), undef, undef, undef, undef, .string text, .int .i64 text.size, .bool true, undef, undef, undef, undef, undef, undef, undef, undef, undef, undef, undef, undef, undef, undef, undef, undef, undef, undef, undef, undef, undef, undef, undef], defers := [] }) (fun _ _ => 0) rfl ?_ ?_
  · go_wp2_with fail
    go_step3
    exact ⟨rfl, rfl, rfl⟩
  · rintro a' w' ⟨rfl, rfl⟩
    go_wp2_with fail
    obtain ⟨y1, y2, y3, yf⟩ := three_in q1 q2 q3 (.slice none 0 0) (.int .i64 0) (.int .i64 3)
    have x1 := y1.cell; have x2 := y2.cell; have x3 := y3.cell
    refine ⟨.tuple #[.slice none 0 0, .int .i64 0, .int .i64 3], by simp [results, Tryz.results11, go_sem, x1, x2, x3], rfl, ?_⟩
    exact qf.then yf (fun y hy => .inr (by simp at hy; omega))
end Go.Proofs.YtnldlakcopbpcaaGreatDoor
