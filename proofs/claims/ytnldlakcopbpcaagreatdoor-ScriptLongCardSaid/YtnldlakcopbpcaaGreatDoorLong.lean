/- Contract: ScriptLong. -/
import Derived.Test.YtnldlakcopbpcaaGreatDoorLongA
namespace Go.Proofs.YtnldlakcopbpcaaGreatDoor
open Go.RowKit Go.Lib

def NRel (w : World) (N : Nat) (i : Value) (wr : World) : Prop :=
  ∃ k : Nat, k ≤ N ∧ i = .int .i64 (k : Int) ∧ Hid (wr.heap[w.heap.size]? = some (.cells (fillC N k) 5)) ∧ Hid (Fr [] w wr)
def ERel (w : World) (M : Nat) (v i : Value) (wr : World) : Prop :=
  ∃ (k : Nat) (so : Option Addr) (sc : Nat), k ≤ M ∧ i = .int .i64 (k : Int) ∧ v = .slice so k sc ∧ Hid (wr.ownsRow w.heap.size 35 10 (.slice so k sc) k (actRow (evL k))) ∧ Hid (Fr [] w wr)

set_option maxRecDepth 100000 in
set_option maxHeartbeats 8000000 in
theorem long_any {B : Nat} (hsame : SameC) (nb na : Int) (w : World) (hG : Gl B w) : Calls Tryz.prog 4 #[.int .i64 nb, .int .i64 na] w fun e w' => e = .returned (.bool true) ∧ Fr [] w w' := by
  have HS := Lib.hid hsame; clear hsame
  have tail : ∀ W, Fr [] w W → Calls Tryz.prog 6 #[] W fun e w' => e = .returned (.bool true) ∧ Fr [] w w' := fun W hf => (works_any (B := B) HS.out W (hG.fr0 hf)).mono fun _ _ h => ⟨h.1, hf.trans h.2⟩
  have TL := Lib.hid tail; clear tail
  by_cases h1 : nb < -1
  · have t1 : decide (nb < -1) = true := decide_eq_true h1
    go_enter Tryz.func4, Tryz.ntmps4
    go_wp2_with fail
    refine (TL.out w (Fr.refl _ _)).mono ?_
    rintro e w2 ⟨rfl, hf2⟩
    go_wp2_with fail
    go_ret
    exact ⟨rfl, hf2⟩
  by_cases h2 : 1 < nb
  · have t1 : decide (nb < -1) = false := decide_eq_false h1
    have t2 : decide (1 < nb) = true := decide_eq_true h2
    go_enter Tryz.func4, Tryz.ntmps4
    go_wp2_with fail
    refine (TL.out w (Fr.refl _ _)).mono ?_
    rintro e w2 ⟨rfl, hf2⟩
    go_wp2_with fail
    go_ret
    exact ⟨rfl, hf2⟩
  by_cases h3 : na < -1
  · have t1 : decide (nb < -1) = false := decide_eq_false h1
    have t2 : decide (1 < nb) = false := decide_eq_false h2
    have t3 : decide (na < -1) = true := decide_eq_true h3
    go_enter Tryz.func4, Tryz.ntmps4
    go_wp2_with fail
    refine (TL.out w (Fr.refl _ _)).mono ?_
    rintro e w2 ⟨rfl, hf2⟩
    go_wp2_with fail
    go_ret
    exact ⟨rfl, hf2⟩
  by_cases h4 : 1 < na
  · have t1 : decide (nb < -1) = false := decide_eq_false h1
    have t2 : decide (1 < nb) = false := decide_eq_false h2
    have t3 : decide (na < -1) = false := decide_eq_false h3
    have t4 : decide (1 < na) = true := decide_eq_true h4
    go_enter Tryz.func4, Tryz.ntmps4
    go_wp2_with fail
    refine (TL.out w (Fr.refl _ _)).mono ?_
    rintro e w2 ⟨rfl, hf2⟩
    go_wp2_with fail
    go_ret
    exact ⟨rfl, hf2⟩
  have t1 : decide (nb < -1) = false := decide_eq_false h1
  have t2 : decide (1 < nb) = false := decide_eq_false h2
  have t3 : decide (na < -1) = false := decide_eq_false h3
  have t4 : decide (1 < na) = false := decide_eq_false h4
  obtain ⟨N, hN⟩ : ∃ N : Nat, (N : Int) = 65536 + nb := ⟨(65536 + nb).toNat, by omega⟩
  obtain ⟨M, hM⟩ : ∃ M : Nat, (M : Int) = 2000 + na := ⟨(2000 + na).toNat, by omega⟩
  obtain ⟨i5, hi5, hz5, hs5, hb5⟩ := info_parts info5
  have hmk : ∀ W : World, (Instr.makeSlice 23 (.int .i64 (65536 + nb)) (.int .i64 (65536 + nb))).run Tryz.prog W = .ok (.slice (some ⟨W.heap.size, 0, none⟩) N N) (W.alloc (.cells (fillC N 0) 5)) := fun W => by
    have h := run_make (P := Tryz.prog) (w := W) 23 5 i5 _ Tryz.underlying23 hi5 hz5 .i64 .i64 (65536 + nb) (65536 + nb) (by omega) (Int.le_refl _) (by rw [hb5]; omega) (by omega)
    rw [← hN, Int.toNat_natCast, hs5, fill_zero] at h
    rw [← hN]; exact h
  have eM : (2000 + na) = (M : Int) := hM.symm
  have hNb : N ≤ 65537 := by omega
  have hMb : M ≤ 2001 := by omega
  have hMa : 0 < M := by omega
  have HN := Lib.hid hN; have HM := Lib.hid hM; clear hN hM
  have F1 : Hid (Fr [] w (w.alloc (.cells (fillC N 0) 5))) := Lib.hid ((Fr.refl [] w).alloc _)
  have H1 : Hid ((w.alloc (.cells (fillC N 0) 5)).heap[w.heap.size]? = some (.cells (fillC N 0) 5)) := Lib.hid (alloc_heap_new w _)
  go_enter Tryz.func4, Tryz.ntmps4
  go_wp2_with fail
  generalize w.alloc (.cells (fillC N 0) 5) = w1 at *
  go_loopw [6] (fun i wr => NRel w N i wr) (fun i _ => N - (RowKit.intOf i).toNat)
  case atStart => exact ⟨0, by omega, rfl, H1, F1⟩
  case round =>
    obtain ⟨k, hk, rfl, hC, hF⟩ := hrel
    by_cases hlt : k < N
    · obtain ⟨v, hv⟩ := fill_at (k := k) hlt
      have hc : wr.cell? ⟨w.heap.size, k, none⟩ = some (.int .u8 v) := by rw [cell_of_row _ _ _ _ _ _ hC.out]; exact hv
      have hz : wr.frozen? ⟨w.heap.size, k, none⟩ = false := by unfold World.frozen?; rw [hC.out]; simp
      have hb := World.block_lt_of_cell? wr _ hc
      clear hv
      go_wp2_with fail
      go_roundw
      case rel =>
        refine ⟨k + 1, by omega, by go_num, Lib.hid ?_, Lib.hid (hF.out.setCell _ _ (.inr (Nat.le_refl _)))⟩
        rw [heap_setCell_same hC.out, show (Value.int .u8 10) = u8v 10 from rfl, fill_set hlt]
      case measure => simp [RowKit.intOf]; omega
    · have hke : k = N := by omega
      subst hke
      have hrow : RowAt wr (.slice (some ⟨w.heap.size, 0, none⟩) k k) ((List.replicate k 10).map u8v) := by
        refine .inr ⟨w.heap.size, 0, k, by simp, fun i hi => ?_⟩
        rw [Nat.zero_add, cell_of_row _ _ _ _ _ _ hC.out, fill_full]
        simp only [List.getElem?_toArray]
        exact List.getElem?_eq_getElem hi
      have hcv := conv_row _ _ wr hrow
      have RN : ∀ W, Fr [] w W → Calls Tryz.prog 11 #[.string (strN (List.replicate k 10))] W fun e w' => ∃ ao cap, e = .returned (.tuple #[.slice ao 0 cap, .int .i64 0, .int .i64 (if 65536 < k then 3 else 0)]) ∧ Fr [] W w' :=
        fun W hf => read_nl (B := B) k (by have := HN.out; omega) W (hG.fr0 hf)
      have RN' := Lib.hid RN
      clear hrow RN hmk
      generalize strN (List.replicate k 10) = tx at *
      go_wp2_with fail
      refine (RN'.out wr hF.out).mono ?_
      rintro e w2 ⟨ao, cap, rfl, hf2⟩
      have F2 := Lib.hid (hF.out.trans hf2)
      clear hf2 hcv
      have hE : Hid ((if 65536 < k then (3 : Int) else 0) = if 0 < nb then 3 else 0) := Lib.hid (by have := HN.out; by_cases h : 65536 < k; rw [if_pos h, if_pos (by omega)]; rw [if_neg h, if_neg (by omega)])
      rw [hE.out]
      generalize he0 : (if 0 < nb then (3 : Int) else 0) = er at *
      have HE0 := Lib.hid he0; clear he0
      go_wp2_with fail
      go_loopw [10, 11] (fun v i wr => ERel w M v i wr) (fun _ i _ => M - (RowKit.intOf i).toNat)
      case atStart => exact ⟨0, none, 0, by omega, rfl, rfl, Lib.hid (World.ownsRow_nil _ _ _ _), F2⟩
      case round =>
        obtain ⟨j, so, sc, hj, rfl, rfl, hO, hF3⟩ := hrel
        by_cases hlt : j < M
        · obtain ⟨i0, hi, hz0, hz1, hz2⟩ := info_parts info35
          have hb1 : j + 1 ≤ maxLen := by unfold maxLen; omega
          have hb2 : (j + 1) * 128 ≤ 140737488355328 := by omega
          have hb3 := hF3.out.size
          have B1 := Lib.hid hb1; have B2 := Lib.hid hb2; have B3 := Lib.hid hb3
          clear hb1 hb2 hb3
          go_wp2_with (at_builtin; refine wpList_append_own _ rfl (.tmp 58) (.tmp 61) 22 rfl w.heap.size 35 i0 _ 10 128 Tryz.underlying22 hi hz0 hz1 hz2 rfl (by decide) _ _ _ rfl (hO.out.alloc _) ⟨wr.heap.size, 0, none⟩ 1 1 (actCells (evA j) (.slice none 0 0) (.slice none 0 0)).toList rfl rfl (cells_new _ _ _) (act_one _ _ _ _ _ _ _) B1.out B2.out (by simp only [World.size_alloc]; exact Nat.le_succ_of_le B3.out) ?_; intro v' w5 hown' hgrow _; obtain ⟨g', cap', rfl⟩ := ownsRow_succ hown'; have O5 : Hid (w5.ownsRow w.heap.size 35 10 (.slice (some ⟨g', 0, none⟩) (j + 1) cap') (j + 1) (actRow (evL (j + 1)))) := Lib.hid (by rw [evL_snoc, actRow_snoc]; exact hown'); have F5 : Hid (Fr [] w w5) := Lib.hid ((hF3.out.alloc _).grown hgrow (fun q hq => .inr (hO.out.lt q hq).1)); clear hown' hgrow)
          go_roundw
          case rel => exact ⟨j + 1, _, _, by omega, by go_num, rfl, O5, F5⟩
          case measure => simp [RowKit.intOf]; omega
        · have hje : j = M := by omega
          subst hje
          have hacts : ActsAt wr (.slice so j sc) (evs j) := by rw [← evL_acts]; exact acts_of_own (by rw [evL_len]; exact hO.out) (evL_held _ _ _)
          have TE := Lib.hid (text_ev (B := B) HS.out j hMa hMb _ wr (hG.fr0 hF3.out) hacts)
          have RE : ∀ W, Fr [] w W → Calls Tryz.prog 11 #[.string (if 2000 < j then ⟨#[]⟩ else txt ((List.range j).map evictS))] W fun e w' => ∃ ao cap, e = .returned (.tuple #[.slice ao (if 2000 < j then 0 else j) cap, .int .i64 0, .int .i64 0]) ∧ Fr [] W w' :=
            fun W hf => read_ev (B := B) j hMb W (hG.fr0 hf)
          have RE' := Lib.hid RE
          clear hacts RE
          have hs0 : 2000 < j → (if 2000 < j then (⟨#[]⟩ : ByteArray) else txt ((List.range j).map evictS)) = ⟨#[]⟩ := fun h => if_pos h
          have HS0 := Lib.hid hs0; clear hs0
          generalize (if 2000 < j then (⟨#[]⟩ : ByteArray) else txt ((List.range j).map evictS)) = ts at *
          go_wp2_with fail
          refine TE.out.mono ?_
          rintro e w3 ⟨rfl, hf3⟩
          have F3 := Lib.hid (hF3.out.trans hf3)
          clear hf3 TE
          by_cases ha : 0 < na
          · have hj2 : 2000 < j := by have := HM.out; omega
            have t5 : decide (0 < na) = true := decide_eq_true ha
            have hts := HS0.out hj2
            subst hts
            rw [if_pos hj2]
            simp only [if_pos hj2] at RE'
            by_cases hb : 0 < nb
            · have t6 : decide (0 < nb) = true := decide_eq_true hb
              have her : er = 3 := by rw [← HE0.out, if_pos hb]
              subst her
              go_wp2_with fail
              refine (RE'.out w3 F3.out).mono ?_
              rintro e w4 ⟨ao4, cap4, rfl, hf4⟩
              have F4 := Lib.hid (F3.out.trans hf4); clear hf4
              go_wp2_with fail
              refine (num_id _ _).mono ?_
              rintro e w5 ⟨rfl, rfl⟩
              go_wp2_with fail
              refine (num_id _ _).mono ?_
              rintro e w5 ⟨rfl, rfl⟩
              go_wp2_with fail
              refine (TL.out w4 F4.out).mono ?_
              rintro e w6 ⟨rfl, hf6⟩
              go_wp2_with fail
              go_ret
              exact ⟨rfl, hf6⟩
            · have t6 : decide (0 < nb) = false := decide_eq_false hb
              have her : er = 0 := by rw [← HE0.out, if_neg hb]
              subst her
              go_wp2_with fail
              refine (RE'.out w3 F3.out).mono ?_
              rintro e w4 ⟨ao4, cap4, rfl, hf4⟩
              have F4 := Lib.hid (F3.out.trans hf4); clear hf4
              go_wp2_with fail
              refine (num_id _ _).mono ?_
              rintro e w5 ⟨rfl, rfl⟩
              go_wp2_with fail
              refine (num_id _ _).mono ?_
              rintro e w5 ⟨rfl, rfl⟩
              go_wp2_with fail
              refine (num_id _ _).mono ?_
              rintro e w5 ⟨rfl, rfl⟩
              go_wp2_with fail
              refine (TL.out w4 F4.out).mono ?_
              rintro e w6 ⟨rfl, hf6⟩
              go_wp2_with fail
              go_ret
              exact ⟨rfl, hf6⟩
          · have hj2 : ¬ 2000 < j := by have := HM.out; omega
            have t5 : decide (0 < na) = false := decide_eq_false ha
            rw [if_neg hj2]
            simp only [if_neg hj2] at RE'
            by_cases hb : 0 < nb
            · have t6 : decide (0 < nb) = true := decide_eq_true hb
              have her : er = 3 := by rw [← HE0.out, if_pos hb]
              subst her
              go_wp2_with fail
              refine (RE'.out w3 F3.out).mono ?_
              rintro e w4 ⟨ao4, cap4, rfl, hf4⟩
              have F4 := Lib.hid (F3.out.trans hf4); clear hf4
              go_wp2_with fail
              refine (num_id _ _).mono ?_
              rintro e w5 ⟨rfl, rfl⟩
              go_wp2_with fail
              refine (num_id _ _).mono ?_
              rintro e w5 ⟨rfl, rfl⟩
              go_wp2_with fail
              refine (num_id _ _).mono ?_
              rintro e w5 ⟨rfl, rfl⟩
              go_wp2_with fail
              refine (TL.out w4 F4.out).mono ?_
              rintro e w6 ⟨rfl, hf6⟩
              go_wp2_with fail
              go_ret
              exact ⟨rfl, hf6⟩
            · have t6 : decide (0 < nb) = false := decide_eq_false hb
              have her : er = 0 := by rw [← HE0.out, if_neg hb]
              subst her
              go_wp2_with fail
              refine (RE'.out w3 F3.out).mono ?_
              rintro e w4 ⟨ao4, cap4, rfl, hf4⟩
              have F4 := Lib.hid (F3.out.trans hf4); clear hf4
              go_wp2_with fail
              refine (num_id _ _).mono ?_
              rintro e w5 ⟨rfl, rfl⟩
              go_wp2_with fail
              refine (num_id _ _).mono ?_
              rintro e w5 ⟨rfl, rfl⟩
              go_wp2_with fail
              refine (num_id _ _).mono ?_
              rintro e w5 ⟨rfl, rfl⟩
              go_wp2_with fail
              refine (num_id _ _).mono ?_
              rintro e w5 ⟨rfl, rfl⟩
              go_wp2_with fail
              refine (TL.out w4 F4.out).mono ?_
              rintro e w6 ⟨rfl, hf6⟩
              go_wp2_with fail
              go_ret
              exact ⟨rfl, hf6⟩
end Go.Proofs.YtnldlakcopbpcaaGreatDoor
