/- Contracts: slices.Equal at bools and at bytes (printed by gen_equal.py). -/
import Derived.Test.YtnldlakcopbpcaaGreatDoorListed
import Derived.Deep.QuietTactic
namespace Go.Proofs.YtnldlakcopbpcaaGreatDoor
open Go.RowKit Go.Lib

def eqbRel (xs ys : List Bool) (w : World) (i : Value) (wr : World) : Prop :=
  ∃ k : Nat, k ≤ xs.length ∧ i = .int .i64 (k : Int) ∧ Hid (xs.take k = ys.take k) ∧ Hid (∃ m, wr = w.drewN m)

set_option maxRecDepth 100000 in
set_option maxHeartbeats 2000000 in
theorem eqb_any (xs ys : List Bool) (v v' : Value) (w : World) (hv : RowAt w v (xs.map Value.bool)) (hv' : RowAt w v' (ys.map Value.bool)) (hx : xs.length ≤ 1000000) (hy : ys.length ≤ 1000000) :
    Calls Tryz.prog 19 #[v, v'] w fun e w' => e = .returned (.bool (decide (xs = ys))) ∧ ∃ m, w' = w.drewN m := by
  by_cases hl : xs.length = ys.length
  · rcases hv with ⟨h0, ao, cap, rfl⟩ | ⟨b, off, cap, rfl, hc⟩
    · have hx0 : xs = [] := by simpa using h0
      subst hx0
      have hy0 : ys = [] := List.length_eq_zero_iff.1 hl.symm
      subst hy0
      obtain ⟨ao', cap', rfl⟩ := hv'.slice
      go_enter Tryz.func19, Tryz.ntmps19
      go_wp2_with fail
      go_loopw [5, 13] (fun _ i wr => i = .int .i64 0 ∧ wr = w) (fun _ _ _ => 0)
      case atStart => exact ⟨rfl, rfl⟩
      case round =>
        obtain ⟨rfl, rfl⟩ := hrel
        go_wp2_with fail
        go_ret
        exact ⟨by simp, 0, rfl⟩
    · have hc1 : ∀ i (h : i < xs.length), w.cell? ⟨b, off + i, none⟩ = some (Value.bool (xs[i]'h)) := fun i h => by have := hc i (by simpa using h); rw [List.getElem_map] at this; exact this
      rcases hv' with ⟨h0, ao', cap', rfl⟩ | ⟨b', off', cap', rfl, hc'⟩
      · have hy0 : ys = [] := by simpa using h0
        subst hy0
        have hx0 : xs = [] := List.length_eq_zero_iff.1 hl
        subst hx0
        go_enter Tryz.func19, Tryz.ntmps19
        go_wp2_with fail
        go_loopw [5, 13] (fun _ i wr => i = .int .i64 0 ∧ wr = w) (fun _ _ _ => 0)
        case atStart => exact ⟨rfl, rfl⟩
        case round =>
          obtain ⟨rfl, rfl⟩ := hrel
          go_wp2_with fail
          go_ret
          exact ⟨by simp, 0, rfl⟩
      · have hc2 : ∀ i (h : i < ys.length), w.cell? ⟨b', off' + i, none⟩ = some (Value.bool (ys[i]'h)) := fun i h => by have := hc' i (by simpa using h); rw [List.getElem_map] at this; exact this
        have C1 := Lib.hid hc1; have C2 := Lib.hid hc2; clear hc1 hc2 hc hc'
        rw [List.length_map, List.length_map]
        have HL := Lib.hid hl
        obtain ⟨n, hn⟩ : ∃ n, ys.length = n := ⟨_, rfl⟩
        have hxn : xs.length = n := hl.trans hn
        rw [hn, hxn]
        have HN := Lib.hid hn; have HX := Lib.hid hxn; clear hn hl
        have hnx : n ≤ 1000000 := by rw [← hxn]; exact hx
        clear hxn hx hy
        go_enter Tryz.func19, Tryz.ntmps19
        go_wp2_with fail
        go_loopw [5, 13] (fun _ i wr => eqbRel xs ys w i wr) (fun _ i _ => n - (RowKit.intOf i).toNat)
        case atStart => exact ⟨0, by omega, rfl, Lib.hid rfl, Lib.hid ⟨0, rfl⟩⟩
        case round =>
          obtain ⟨k, hk, rfl, ht, hF⟩ := hrel
          rw [HX.out] at hk
          by_cases hlt : k < n
          · have k1 : k < xs.length := by rw [HX.out]; exact hlt
            have k2 : k < ys.length := by rw [HN.out]; exact hlt
            obtain ⟨m, hm⟩ := hF.out
            have hfr : Fr [] w wr := by rw [hm]; exact (Fr.refl _ _).drewN m
            have HDM := Lib.hid hm
            have c1 := hfr.cell0 (C1.out k k1)
            have c2 := hfr.cell0 (C2.out k k2)
            clear hm hfr
            have HT : xs[k] = ys[k] → Hid (xs.take (k + 1) = ys.take (k + 1)) := fun e => Lib.hid (by rw [List.take_succ_eq_append_getElem k1, List.take_succ_eq_append_getElem k2, ht.out, e])
            have HNE : ¬ xs[k] = ys[k] → Hid (¬ xs = ys) := fun h => Lib.hid (fun e => h (by subst e; rfl))
            generalize xs[k] = x at *
            generalize ys[k] = y at *
            by_cases hxy : x = y
            · subst hxy
              have HT1 := HT rfl
              clear HT HNE
              have q : (x == x) = true := by simp
              go_wp2_with fail
              go_region
              all_goals go_wp2_with fail
              all_goals go_roundw
              case rel => exact ⟨k + 1, by rw [HX.out]; omega, by go_num, HT1, Lib.hid (by first | exact ⟨m, HDM.out⟩ | exact ⟨m + 1, by rw [HDM.out]; rfl⟩)⟩
              case measure => simp [RowKit.intOf]; omega
            · have HN1 := HNE hxy
              clear HT HNE
              have q : (x == y) = false := by simpa using hxy
              go_wp2_with fail
              go_region
              all_goals go_wp2_with fail
              all_goals go_ret
              all_goals exact ⟨by rw [decide_eq_false HN1.out]; rfl, by first | exact ⟨m, HDM.out⟩ | exact ⟨m + 1, by rw [HDM.out]; rfl⟩⟩
          · go_wp2_with fail
            go_ret
            have e : xs = ys := by
              have h := ht.out
              rwa [List.take_of_length_le (by rw [HX.out]; omega), List.take_of_length_le (by rw [HN.out]; omega)] at h
            exact ⟨by rw [decide_eq_true e]; rfl, hF.out⟩
  · obtain ⟨ao, cap, rfl⟩ := hv.slice
    obtain ⟨ao', cap', rfl⟩ := hv'.slice
    rw [List.length_map, List.length_map]
    have hne : ¬ xs = ys := fun e => hl (by rw [e])
    have e0 : ((xs.length : Int) == (ys.length : Int)) = false := beq_eq_false_iff_ne.2 (by omega)
    have HNE := Lib.hid hne; clear hne
    go_enter Tryz.func19, Tryz.ntmps19
    go_wp2_with fail
    go_ret
    exact ⟨by rw [decide_eq_false HNE.out]; rfl, 0, rfl⟩

def eqyRel (xs ys : List Nat) (w : World) (i : Value) (wr : World) : Prop :=
  ∃ k : Nat, k ≤ xs.length ∧ i = .int .i64 (k : Int) ∧ Hid (xs.take k = ys.take k) ∧ Hid (∃ m, wr = w.drewN m)

set_option maxRecDepth 100000 in
set_option maxHeartbeats 2000000 in
theorem eqy_any (xs ys : List Nat) (v v' : Value) (w : World) (hv : RowAt w v (xs.map u8v)) (hv' : RowAt w v' (ys.map u8v)) (hx : xs.length ≤ 1000000) (hy : ys.length ≤ 1000000) :
    Calls Tryz.prog 20 #[v, v'] w fun e w' => e = .returned (.bool (decide (xs = ys))) ∧ ∃ m, w' = w.drewN m := by
  by_cases hl : xs.length = ys.length
  · rcases hv with ⟨h0, ao, cap, rfl⟩ | ⟨b, off, cap, rfl, hc⟩
    · have hx0 : xs = [] := by simpa using h0
      subst hx0
      have hy0 : ys = [] := List.length_eq_zero_iff.1 hl.symm
      subst hy0
      obtain ⟨ao', cap', rfl⟩ := hv'.slice
      go_enter Tryz.func20, Tryz.ntmps20
      go_wp2_with fail
      go_loopw [5, 13] (fun _ i wr => i = .int .i64 0 ∧ wr = w) (fun _ _ _ => 0)
      case atStart => exact ⟨rfl, rfl⟩
      case round =>
        obtain ⟨rfl, rfl⟩ := hrel
        go_wp2_with fail
        go_ret
        exact ⟨by simp, 0, rfl⟩
    · have hc1 : ∀ i (h : i < xs.length), w.cell? ⟨b, off + i, none⟩ = some (u8v (xs[i]'h)) := fun i h => by have := hc i (by simpa using h); rw [List.getElem_map] at this; exact this
      rcases hv' with ⟨h0, ao', cap', rfl⟩ | ⟨b', off', cap', rfl, hc'⟩
      · have hy0 : ys = [] := by simpa using h0
        subst hy0
        have hx0 : xs = [] := List.length_eq_zero_iff.1 hl
        subst hx0
        go_enter Tryz.func20, Tryz.ntmps20
        go_wp2_with fail
        go_loopw [5, 13] (fun _ i wr => i = .int .i64 0 ∧ wr = w) (fun _ _ _ => 0)
        case atStart => exact ⟨rfl, rfl⟩
        case round =>
          obtain ⟨rfl, rfl⟩ := hrel
          go_wp2_with fail
          go_ret
          exact ⟨by simp, 0, rfl⟩
      · have hc2 : ∀ i (h : i < ys.length), w.cell? ⟨b', off' + i, none⟩ = some (u8v (ys[i]'h)) := fun i h => by have := hc' i (by simpa using h); rw [List.getElem_map] at this; exact this
        have C1 := Lib.hid hc1; have C2 := Lib.hid hc2; clear hc1 hc2 hc hc'
        rw [List.length_map, List.length_map]
        have HL := Lib.hid hl
        obtain ⟨n, hn⟩ : ∃ n, ys.length = n := ⟨_, rfl⟩
        have hxn : xs.length = n := hl.trans hn
        rw [hn, hxn]
        have HN := Lib.hid hn; have HX := Lib.hid hxn; clear hn hl
        have hnx : n ≤ 1000000 := by rw [← hxn]; exact hx
        clear hxn hx hy
        go_enter Tryz.func20, Tryz.ntmps20
        go_wp2_with fail
        go_loopw [5, 13] (fun _ i wr => eqyRel xs ys w i wr) (fun _ i _ => n - (RowKit.intOf i).toNat)
        case atStart => exact ⟨0, by omega, rfl, Lib.hid rfl, Lib.hid ⟨0, rfl⟩⟩
        case round =>
          obtain ⟨k, hk, rfl, ht, hF⟩ := hrel
          rw [HX.out] at hk
          by_cases hlt : k < n
          · have k1 : k < xs.length := by rw [HX.out]; exact hlt
            have k2 : k < ys.length := by rw [HN.out]; exact hlt
            obtain ⟨m, hm⟩ := hF.out
            have hfr : Fr [] w wr := by rw [hm]; exact (Fr.refl _ _).drewN m
            have HDM := Lib.hid hm
            have c1 := hfr.cell0 (C1.out k k1)
            have c2 := hfr.cell0 (C2.out k k2)
            clear hm hfr
            have HT : xs[k] = ys[k] → Hid (xs.take (k + 1) = ys.take (k + 1)) := fun e => Lib.hid (by rw [List.take_succ_eq_append_getElem k1, List.take_succ_eq_append_getElem k2, ht.out, e])
            have HNE : ¬ xs[k] = ys[k] → Hid (¬ xs = ys) := fun h => Lib.hid (fun e => h (by subst e; rfl))
            generalize xs[k] = x at *
            generalize ys[k] = y at *
            by_cases hxy : x = y
            · subst hxy
              have HT1 := HT rfl
              clear HT HNE
              have q : ((x : Int) == (x : Int)) = true := by simp
              have q1 : u8v x = .int .u8 (x : Int) := rfl
              go_wp2_with fail
              go_region
              all_goals go_wp2_with fail
              all_goals go_roundw
              case rel => exact ⟨k + 1, by rw [HX.out]; omega, by go_num, HT1, Lib.hid (by first | exact ⟨m, HDM.out⟩ | exact ⟨m + 1, by rw [HDM.out]; rfl⟩)⟩
              case measure => simp [RowKit.intOf]; omega
            · have HN1 := HNE hxy
              clear HT HNE
              have q : ((x : Int) == (y : Int)) = false := beq_eq_false_iff_ne.2 (by omega)
              have q1 : u8v x = .int .u8 (x : Int) := rfl
              have q2 : u8v y = .int .u8 (y : Int) := rfl
              go_wp2_with fail
              go_region
              all_goals go_wp2_with fail
              all_goals go_ret
              all_goals exact ⟨by rw [decide_eq_false HN1.out]; rfl, by first | exact ⟨m, HDM.out⟩ | exact ⟨m + 1, by rw [HDM.out]; rfl⟩⟩
          · go_wp2_with fail
            go_ret
            have e : xs = ys := by
              have h := ht.out
              rwa [List.take_of_length_le (by rw [HX.out]; omega), List.take_of_length_le (by rw [HN.out]; omega)] at h
            exact ⟨by rw [decide_eq_true e]; rfl, hF.out⟩
  · obtain ⟨ao, cap, rfl⟩ := hv.slice
    obtain ⟨ao', cap', rfl⟩ := hv'.slice
    rw [List.length_map, List.length_map]
    have hne : ¬ xs = ys := fun e => hl (by rw [e])
    have e0 : ((xs.length : Int) == (ys.length : Int)) = false := beq_eq_false_iff_ne.2 (by omega)
    have HNE := Lib.hid hne; clear hne
    go_enter Tryz.func20, Tryz.ntmps20
    go_wp2_with fail
    go_ret
    exact ⟨by rw [decide_eq_false HNE.out]; rfl, 0, rfl⟩
end Go.Proofs.YtnldlakcopbpcaaGreatDoor
