/- Contract: few: are acts within the bounds? -/
import Derived.Test.YtnldlakcopbpcaaGreatDoorActOk
namespace Go.Proofs.YtnldlakcopbpcaaGreatDoor
open Go.RowKit Go.Lib

def FewOk (a : ActD) : Prop := a.path.size ≤ 400 ∧ a.dest.size ≤ 400 ∧ a.bytes.length ≤ 500 ∧ a.marks.length ≤ 80
instance (a : ActD) : Decidable (FewOk a) := by unfold FewOk; infer_instance

/-- An act in the cells of a block, from an offset on. -/
def ActIn (w : World) (b o : Nat) (a : ActD) : Prop :=
  ∃ vb vm, RowAt w vb (a.bytes.map u8v) ∧ RowAt w vm (a.marks.map Value.bool) ∧
    w.cell? ⟨b, o, none⟩ = some (.int .i64 a.kind) ∧ w.cell? ⟨b, o + 1, none⟩ = some (.int .i64 a.thread) ∧ w.cell? ⟨b, o + 2, none⟩ = some (.int .i64 a.n) ∧ w.cell? ⟨b, o + 3, none⟩ = some (.int .i64 a.opk) ∧ w.cell? ⟨b, o + 4, none⟩ = some (.string a.path) ∧
    w.cell? ⟨b, o + 5, none⟩ = some (.string a.dest) ∧ w.cell? ⟨b, o + 6, none⟩ = some (.int .i64 a.at_) ∧ w.cell? ⟨b, o + 7, none⟩ = some (.int .i64 a.opn) ∧ w.cell? ⟨b, o + 8, none⟩ = some vb ∧ w.cell? ⟨b, o + 9, none⟩ = some vm

theorem ActIn.fr0 {w w' : World} {b o : Nat} {a : ActD} (h : ActIn w b o a) (f : Fr [] w w') : ActIn w' b o a := by
  obtain ⟨vb, vm, h1, h2, c0, c1, c2, c3, c4, c5, c6, c7, c8, c9⟩ := h
  exact ⟨vb, vm, h1.fr0 f, h2.fr0 f, f.cell0 c0, f.cell0 c1, f.cell0 c2, f.cell0 c3, f.cell0 c4, f.cell0 c5, f.cell0 c6, f.cell0 c7, f.cell0 c8, f.cell0 c9⟩

/-- A slice of acts. -/
def ActsAt (w : World) (v : Value) (l : List ActD) : Prop :=
  (l = [] ∧ ∃ ao cap, v = .slice ao 0 cap) ∨ ∃ b off cap, v = .slice (some ⟨b, off, none⟩) l.length cap ∧ ∀ i (h : i < l.length), ActIn w b (off + i * 10) l[i]
theorem ActsAt.fr0 {w w' : World} {v : Value} {l : List ActD} (h : ActsAt w v l) (f : Fr [] w w') : ActsAt w' v l := by
  rcases h with h | ⟨b, off, cap, e, h⟩
  · exact .inl h
  · exact .inr ⟨b, off, cap, e, fun i hi => (h i hi).fr0 f⟩

def FewPost (l : List ActD) (most : Int) (w : World) (e : Ending) (w' : World) : Prop := ∃ r : Bool, e = .returned (.bool r) ∧ (r = true ↔ (∀ a ∈ l, FewOk a) ∧ (l.length : Int) ≤ most) ∧ Fr [] w w'
def FewRel (l : List ActD) (w : World) (i : Value) (wr : World) : Prop :=
  ∃ k : Nat, k ≤ l.length ∧ i = .int .i64 (k : Int) ∧ Hid (∀ a ∈ l.take k, FewOk a) ∧ Hid (Fr [] w wr)

set_option maxRecDepth 100000 in
set_option maxHeartbeats 4000000 in
theorem few_some (l : List ActD) (most : Int) (b off cap : Nat) (w : World) (hn : l.length ≤ 9223372036854775807) (hc : ∀ i (h : i < l.length), ActIn w b (off + i * 10) l[i]) :
    Calls Tryz.prog 5 #[.slice (some ⟨b, off, none⟩) l.length cap, .int .i64 most] w (FewPost l most w) := by
  have HC := Lib.hid hc; clear hc
  go_enter Tryz.func5, Tryz.ntmps5
  go_wp2_with fail
  go_loopw [5, 6] (fun i _ wr => FewRel l w i wr) (fun i _ _ => l.length - (RowKit.intOf i).toNat)
  case atStart => exact ⟨0, by omega, rfl, Lib.hid (by simp), Lib.hid (Fr.refl _ _)⟩
  case round =>
    obtain ⟨k, hk, rfl, hall, hF⟩ := hrel
    by_cases hlt : k < l.length
    · obtain ⟨vb, vm, hB, hM, c0, c1, c2, c3, c4, c5, c6, c7, c8, c9⟩ := (HC.out k hlt).fr0 hF.out
      obtain ⟨ao, cb, rfl⟩ := hB.slice
      obtain ⟨ao', cb', rfl⟩ := hM.slice
      rw [List.length_map] at c8 c9
      have HNX : FewOk l[k] → Hid (∀ a ∈ l.take (k + 1), FewOk a) := fun h => Lib.hid (fun a ha => by
        rw [List.take_succ_eq_append_getElem hlt, List.mem_append, List.mem_singleton] at ha
        rcases ha with ha | rfl
        · exact hall.out a ha
        · exact h)
      have HBAD : ¬ FewOk l[k] → Hid (¬ ((∀ a ∈ l, FewOk a) ∧ (l.length : Int) ≤ most)) := fun h => Lib.hid (fun e => h (e.1 _ (List.getElem_mem hlt)))
      generalize l[k] = a at *
      clear hB hM
      have hb := World.block_lt_of_cell? wr _ c0
      by_cases h0 : 400 < a.path.size
      · have t0 : decide ((400 : Int) < (a.path.size : Int)) = true := decide_eq_true (by omega)
        have HB := HBAD (fun h => by have h1 := h.1; have h2 := h.2.1; have h3 := h.2.2.1; have h4 := h.2.2.2; omega)
        clear HNX HBAD
        go_wp2_with fail
        go_ret
        exact ⟨false, rfl, ⟨fun h => (by cases h), fun h => absurd h HB.out⟩, hF.out.alloc _⟩
      · skip
        by_cases h1 : 400 < a.dest.size
        · have t0 : decide ((400 : Int) < (a.path.size : Int)) = false := decide_eq_false (by omega)
          have t1 : decide ((400 : Int) < (a.dest.size : Int)) = true := decide_eq_true (by omega)
          have HB := HBAD (fun h => by have h1 := h.1; have h2 := h.2.1; have h3 := h.2.2.1; have h4 := h.2.2.2; omega)
          clear HNX HBAD
          go_wp2_with fail
          go_ret
          exact ⟨false, rfl, ⟨fun h => (by cases h), fun h => absurd h HB.out⟩, hF.out.alloc _⟩
        · skip
          by_cases h2 : 500 < a.bytes.length
          · have t0 : decide ((400 : Int) < (a.path.size : Int)) = false := decide_eq_false (by omega)
            have t1 : decide ((400 : Int) < (a.dest.size : Int)) = false := decide_eq_false (by omega)
            have t2 : decide ((500 : Int) < (a.bytes.length : Int)) = true := decide_eq_true (by omega)
            have HB := HBAD (fun h => by have h1 := h.1; have h2 := h.2.1; have h3 := h.2.2.1; have h4 := h.2.2.2; omega)
            clear HNX HBAD
            go_wp2_with fail
            go_ret
            exact ⟨false, rfl, ⟨fun h => (by cases h), fun h => absurd h HB.out⟩, hF.out.alloc _⟩
          · skip
            by_cases h3 : 80 < a.marks.length
            · have t0 : decide ((400 : Int) < (a.path.size : Int)) = false := decide_eq_false (by omega)
              have t1 : decide ((400 : Int) < (a.dest.size : Int)) = false := decide_eq_false (by omega)
              have t2 : decide ((500 : Int) < (a.bytes.length : Int)) = false := decide_eq_false (by omega)
              have t3 : decide ((80 : Int) < (a.marks.length : Int)) = true := decide_eq_true (by omega)
              have HB := HBAD (fun h => by have h1 := h.1; have h2 := h.2.1; have h3 := h.2.2.1; have h4 := h.2.2.2; omega)
              clear HNX HBAD
              go_wp2_with fail
              go_ret
              exact ⟨false, rfl, ⟨fun h => (by cases h), fun h => absurd h HB.out⟩, hF.out.alloc _⟩
            · skip
              have t0 : decide ((400 : Int) < (a.path.size : Int)) = false := decide_eq_false (by omega)
              have t1 : decide ((400 : Int) < (a.dest.size : Int)) = false := decide_eq_false (by omega)
              have t2 : decide ((500 : Int) < (a.bytes.length : Int)) = false := decide_eq_false (by omega)
              have t3 : decide ((80 : Int) < (a.marks.length : Int)) = false := decide_eq_false (by omega)
              have HN := HNX ⟨by omega, by omega, by omega, by omega⟩
              clear HNX HBAD
              go_wp2_with fail
              go_roundw
              case rel => exact ⟨k + 1, by omega, by go_num, HN, Lib.hid (hF.out.alloc _)⟩
              case measure => simp [RowKit.intOf]; omega
    · have hall' : ∀ a ∈ l, FewOk a := by have h := hall.out; rwa [List.take_of_length_le (by omega)] at h
      have HA := Lib.hid hall'; clear hall'
      by_cases hm : (l.length : Int) ≤ most
      · have t : decide ((l.length : Int) ≤ most) = true := decide_eq_true hm
        have HM := Lib.hid hm; clear hm
        go_wp2_with fail
        go_ret
        exact ⟨true, rfl, ⟨fun _ => ⟨HA.out, HM.out⟩, fun _ => rfl⟩, hF.out⟩
      · have t : decide ((l.length : Int) ≤ most) = false := decide_eq_false hm
        have HM := Lib.hid hm; clear hm
        go_wp2_with fail
        go_ret
        exact ⟨false, rfl, ⟨fun h => (by cases h), fun h => absurd h.2 (by have := HM.out; omega)⟩, hF.out⟩

set_option maxRecDepth 100000 in
theorem few_any (l : List ActD) (most : Int) (v : Value) (w : World) (hn : l.length ≤ 9223372036854775807) (hv : ActsAt w v l) (hm : 0 ≤ most) : Calls Tryz.prog 5 #[v, .int .i64 most] w (FewPost l most w) := by
  rcases hv with ⟨rfl, ao, cap, rfl⟩ | ⟨b, off, cap, rfl, h⟩
  · have t : decide ((0 : Int) ≤ most) = true := decide_eq_true hm
    go_enter Tryz.func5, Tryz.ntmps5
    go_wp2_with fail
    go_loopw [5, 6] (fun i _ wr => i = .int .i64 0 ∧ wr = w) (fun _ _ _ => 0)
    case atStart => exact ⟨rfl, rfl⟩
    case round =>
      obtain ⟨rfl, rfl⟩ := hrel
      go_wp2_with fail
      go_ret
      exact ⟨true, rfl, ⟨fun _ => ⟨by simp, by simpa using hm⟩, fun _ => rfl⟩, Fr.refl _ _⟩
  · exact few_some l most b off cap w hn h
end Go.Proofs.YtnldlakcopbpcaaGreatDoor
