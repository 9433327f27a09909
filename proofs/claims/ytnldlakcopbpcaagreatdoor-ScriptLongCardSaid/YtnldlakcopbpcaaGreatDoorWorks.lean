/- Contract: works. -/
import Derived.Test.YtnldlakcopbpcaaGreatDoorRead
import Derived.Test.YtnldlakcopbpcaaGreatDoorConst
import Derived.Lib.SlBytesConst
namespace Go.Proofs.YtnldlakcopbpcaaGreatDoor
open Go.RowKit Go.Lib

theorem lns_w : lns 0 (nlS ⟨#[115, 116, 101, 112, 32, 48, 32, 49, 10, 10, 120]⟩) = [(1, ⟨#[115, 116, 101, 112, 32, 48, 32, 49]⟩), (3, ⟨#[120]⟩)] := by kernel_rfl
theorem readw {w w' : World} {e : Ending} (h : RdPost ⟨#[115, 116, 101, 112, 32, 48, 32, 49, 10, 10, 120]⟩ w e w') : e = .returned (.tuple #[.slice none 0 0, .int .i64 3, .int .i64 380]) ∧ Fr [] w w' := by
  have g1 : parseE (clip ⟨#[115, 116, 101, 112, 32, 48, 32, 49]⟩) = 0 := by
    rw [show clip ⟨#[115, 116, 101, 112, 32, 48, 32, 49]⟩ = ⟨#[115, 116, 101, 112, 32, 48, 32, 49]⟩ from by decide]
    unfold parseE; rw [parse_1]; rfl
  have g2 : parseE (clip ⟨#[120]⟩) = 380 := by
    rw [show clip ⟨#[120]⟩ = ⟨#[120]⟩ from by decide]
    unfold parseE; rw [parse_x]; rfl
  unfold RdPost at h
  rw [lns_w] at h
  rcases h with ⟨v, _, _, hok, _⟩ | ⟨p, x, hp, hok, hx, he, hf⟩
  · have := hok (3, ⟨#[120]⟩) (by simp)
    rw [g2] at this; exact absurd this (by decide)
  · refine ⟨?_, hf⟩
    rw [he]
    cases p with
    | nil =>
      obtain ⟨t, ht⟩ := hp
      simp only [List.nil_append, List.singleton_append, List.cons.injEq] at ht
      rw [ht.1, g1] at hx
      exact absurd hx (by decide)
    | cons y p =>
      obtain ⟨t, ht⟩ := hp
      have hx2 : x = (3, ⟨#[120]⟩) := by
        cases p with
        | nil => exact (List.cons.inj (List.cons.inj ht).2).1
        | cons z p =>
          have := congrArg List.length ht
          simp at this
      rw [hx2]; rfl

theorem print_v {w w' : World} {e : Ending} (h : PrintPost { kind := 5, n := 5 } w e w') : e = .returned (.tuple #[.string ⟨#[114, 101, 99, 111, 118, 101, 114, 32, 53]⟩, .int .i64 0]) ∧ Fr [] w w' := by
  obtain ⟨s, hL, hc, hf⟩ := h
  have hs := laid_v hL
  subst hs
  have h1 : parseE ⟨#[114, 101, 99, 111, 118, 101, 114, 32, 53]⟩ = 0 := by unfold parseE; rw [parse_v]; rfl
  have h2 : parseA ⟨#[114, 101, 99, 111, 118, 101, 114, 32, 53]⟩ = { kind := 5, n := 5 } := by unfold parseA; rw [parse_v]; rfl
  rcases hc with ⟨_, _, he⟩ | ⟨hn, _⟩
  · exact ⟨he, hf⟩
  · exact absurd ⟨h1, h2⟩ hn
theorem print_k {w w' : World} {e : Ending} (h : PrintPost { kind := 4 } w e w') : e = .returned (.tuple #[.string ⟨#[99, 114, 97, 115, 104, 32, 45]⟩, .int .i64 0]) ∧ Fr [] w w' := by
  obtain ⟨s, hL, hc, hf⟩ := h
  have hs := laid_k hL
  subst hs
  have h1 : parseE ⟨#[99, 114, 97, 115, 104, 32, 45]⟩ = 0 := by unfold parseE; rw [parse_k]; rfl
  have h2 : parseA ⟨#[99, 114, 97, 115, 104, 32, 45]⟩ = { kind := 4 } := by unfold parseA; rw [parse_k]; rfl
  rcases hc with ⟨_, _, he⟩ | ⟨hn, _⟩
  · exact ⟨he, hf⟩
  · exact absurd ⟨h1, h2⟩ hn
theorem nilV (w : World) (a : ActD) (h1 : a.bytes = []) (h2 : a.marks = []) : ActV w a (.agg (actCells a (.slice none 0 0) (.slice none 0 0))) :=
  ⟨_, _, rfl, .inl ⟨by rw [h1]; rfl, none, 0, rfl⟩, .inl ⟨by rw [h2]; rfl, none, 0, rfl⟩⟩
theorem okV : ActOk { kind := 5, n := 5 } := parseS_ok parse_v
theorem okK : ActOk { kind := 4 } := parseS_ok parse_k

set_option maxRecDepth 100000 in
set_option maxHeartbeats 4000000 in
theorem works_any {B : Nat} (hsame : SameC) (w : World) (hG : Gl B w) : Calls Tryz.prog 6 #[] w fun e w' => e = .returned (.bool true) ∧ Fr [] w w' := by
  have HS := Lib.hid hsame; clear hsame
  have kc := fun (w : World) (C : Array Value) (n c : Nat) => Lib.run_convert_bytes_const (P := Tryz.prog) w 23 5 C n c Tryz.underlying23 Tryz.underlying5
  go_enter Tryz.func6, Tryz.ntmps6
  go_upto_region 1 with fail
  go_wp2_with fail
  refine (print_any (B := B) HS.out { kind := 5, n := 5 } (.slice none 0 0) (.slice none 0 0) w hG okV (nilV _ _ rfl rfl)).mono ?_
  intro e w1 hP
  obtain ⟨rfl, hf⟩ := print_v hP
  have F1 := Lib.hid hf; clear hP hf
  go_wp2_with fail
  refine (print_any (B := B) HS.out { kind := 4 } (.slice none 0 0) (.slice none 0 0) w1 (hG.fr0 F1.out) okK (nilV _ _ rfl rfl)).mono ?_
  intro e w2 hP
  obtain ⟨rfl, hf⟩ := print_k hP
  have F2 := Lib.hid (F1.out.trans hf); clear hP hf
  go_wp2_with fail
  refine (read_any (B := B) _ w2 (hG.fr0 F2.out) (by decide) (by rw [lns_w]; decide)).mono ?_
  intro e w3 hP
  obtain ⟨rfl, hf⟩ := readw hP
  have F3 := Lib.hid (F2.out.trans hf); clear hP hf
  have hrow : RowAt (w3.alloc (.cells #[.int .u8 104, .int .u8 105] 5 (2, 3))) (.slice (some ⟨w3.heap.size, 0, none⟩) 2 2) (actQ.bytes.map u8v) := by
    refine .inr ⟨w3.heap.size, 0, 2, rfl, fun i hi => ?_⟩
    rw [cell_of_row _ _ _ _ _ _ (alloc_heap_new w3 _), Nat.zero_add]
    have hi' : i < 2 := hi
    match i, hi' with
    | 0, _ => rfl
    | 1, _ => rfl
  have HROW := Lib.hid hrow; clear hrow
  go_upto_region 4 with fail
  go_wp2_with fail
  have hf4 : Fr [] w (w3.alloc (.cells #[.int .u8 104, .int .u8 105] 5 (2, 3))) := F3.out.alloc _
  generalize w3.alloc (.cells #[.int .u8 104, .int .u8 105] 5 (2, 3)) = w4 at *
  have F4 := Lib.hid hf4; clear hf4
  refine (parses_any (B := B) _ actQ (.slice (some ⟨w3.heap.size, 0, none⟩) 2 2) (.slice none 0 0) w4 (hG.fr0 F4.out) (by decide) parse_q ⟨_, _, rfl, HROW.out, .inl ⟨rfl, none, 0, rfl⟩⟩).mono ?_
  rintro e w5 ⟨rfl, hf⟩
  have F5 := Lib.hid (F4.out.trans hf); clear hf
  go_wp2_with fail
  refine (parses_any (B := B) _ { kind := 2, thread := 1, n := 20 } (.slice none 0 0) (.slice none 0 0) w5 (hG.fr0 F5.out) (by decide) parse_s (nilV _ _ rfl rfl)).mono ?_
  rintro e w6 ⟨rfl, hf⟩
  have F6 := Lib.hid (F5.out.trans hf); clear hf
  go_wp2_with fail
  have hrow2 : RowAt (w6.alloc (.cells #[.bool false, .bool true] 4)) (.slice (some ⟨w6.heap.size, 0, none⟩) 2 2) (([false, true] : List Bool).map Value.bool) := by
    refine .inr ⟨w6.heap.size, 0, 2, rfl, fun i hi => ?_⟩
    rw [cell_of_row _ _ _ _ _ _ (alloc_heap_new w6 _), Nat.zero_add]
    have hi' : i < 2 := hi
    match i, hi' with
    | 0, _ => rfl
    | 1, _ => rfl
  have hf7 : Fr [] w (w6.alloc (.cells #[.bool false, .bool true] 4)) := F6.out.alloc _
  generalize w6.alloc (.cells #[.bool false, .bool true] 4) = w7 at *
  have F7 := Lib.hid hf7; have HROW2 := Lib.hid hrow2; clear hf7 hrow2
  refine (parses_any (B := B) _ { kind := 4, marks := [false, true] } (.slice none 0 0) (.slice (some ⟨w6.heap.size, 0, none⟩) 2 2) w7 (hG.fr0 F7.out) (by decide) parse_c ⟨_, _, rfl, .inl ⟨rfl, none, 0, rfl⟩, HROW2.out⟩).mono ?_
  rintro e w8 ⟨rfl, hf⟩
  have F8 := Lib.hid (F7.out.trans hf); clear hf
  go_wp2_with fail
  refine (fails_any (B := B) _ w8 (hG.fr0 F8.out) (by decide) parse_e).mono ?_
  rintro e w9 ⟨rfl, hf⟩
  have F9 := Lib.hid (F8.out.trans hf); clear hf
  go_wp2_with fail
  refine (fails_any (B := B) _ w9 (hG.fr0 F9.out) (by decide) parse_r).mono ?_
  rintro e w10 ⟨rfl, hf⟩
  have F10 := Lib.hid (F9.out.trans hf); clear hf
  go_wp2_with fail
  refine (num_id _ _).mono ?_
  rintro e w11 ⟨rfl, rfl⟩
  go_wp2_with fail
  refine (num_id _ _).mono ?_
  rintro e w11 ⟨rfl, rfl⟩
  go_wp2_with fail
  refine (num_id _ _).mono ?_
  rintro e w11 ⟨rfl, rfl⟩
  go_wp2_with fail
  go_ret
  exact ⟨rfl, F10.out⟩
end Go.Proofs.YtnldlakcopbpcaaGreatDoor
