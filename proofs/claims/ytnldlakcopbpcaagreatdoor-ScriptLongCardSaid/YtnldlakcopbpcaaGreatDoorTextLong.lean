/- Contract: Text of too many acts. -/
import Derived.Test.YtnldlakcopbpcaaGreatDoorText
import Derived.ScopeJumps
namespace Go.Proofs.YtnldlakcopbpcaaGreatDoor
open Go.RowKit Go.Lib

set_option maxRecDepth 100000 in
set_option maxHeartbeats 4000000 in
theorem text_long {B : Nat} (hsame : SameC) (f : ActD → ByteArray) (l : List ActD) (b off cap : Nat) (w : World) (hG : Gl B w) (hn : 2000 < l.length) (hn2 : l.length ≤ 3000) (hp : Prints f l) (hc : ∀ i (h : i < l.length), ActIn w b (off + i * 10) l[i]) :
    Calls Tryz.prog 12 #[.slice (some ⟨b, off, none⟩) l.length cap] w fun e w' => e = .returned (.tuple #[.string ⟨#[]⟩, .int .i64 3]) ∧ Fr [] w w' := by
  have HC := Lib.hid hc; have HP := Lib.hid hp; have HS := Lib.hid hsame; clear hc hp hsame
  go_enter Tryz.func12, Tryz.ntmps12
  go_wp2_with fail
  refine wp_scope_jumps 0 (fun a' w' => Fr [] w w' ∧ a'.defers = [] ∧ a'.tmps.size = 36) (fun _ _ => 0) rfl ?_ ?_
  case refine_2 =>
    rintro ⟨tmps, ds⟩ w' ⟨hf, rfl, hsz⟩
    have hsz' : tmps.size = 36 := hsz
    go_wp2_with fail
    simp only [Exit.jump]
    exact bodyPost_ret (v := .tuple #[.string ⟨#[]⟩, .int .i64 3]) (by simp only [results, Tryz.results12]; simp [go_sem, hsz']) rfl ⟨rfl, hf⟩
  go_wp2_with fail
  go_loopw [2, 5, 6, 7, 10] (fun o _ _ _ i wr => TextRel f l w o i wr) (fun _ _ _ _ i _ => l.length - (RowKit.intOf i).toNat)
  case atStart => exact ⟨0, by omega, rfl, rfl, Lib.hid (Fr.refl _ _)⟩
  case round =>
    obtain ⟨k, hk, rfl, rfl, hF⟩ := hrel
    by_cases hlt : k < l.length
    · obtain ⟨vb, vm, hB, hM, c0, c1, c2, c3, c4, c5, c6, c7, c8, c9⟩ := (HC.out k hlt).fr0 hF.out
      obtain ⟨ao, cb, rfl⟩ := hB.slice
      obtain ⟨ao', cb', rfl⟩ := hM.slice
      have HT : Hid (textS f (l.take (k + 1)) ⟨#[]⟩ = textS f (l.take k) ⟨#[]⟩ ++ (f l[k] ++ (⟨#[10]⟩ : ByteArray))) := Lib.hid (by rw [List.take_succ_eq_append_getElem hlt, textS_snoc])
      have hpk := HP.out l[k] (List.getElem_mem hlt)
      have hsz : (textS f (l.take k) ⟨#[]⟩).size ≤ 0 + 31 * (l.take k).length := textS_size (fun a ha => (HP.out a (List.mem_of_mem_take ha)).2.1)
      have hlk : (l.take k).length ≤ 3000 := by rw [List.length_take]; omega
      generalize l[k] = a at *
      generalize textS f (l.take k) ⟨#[]⟩ = o at *
      have ok := hpk.1
      have hfa := hpk.2.1
      have HPK := Lib.hid hpk.2.2
      have hV : ActV wr a (.agg (actCells a (.slice ao (a.bytes.map u8v).length cb) (.slice ao' (a.marks.map Value.bool).length cb'))) := ⟨_, _, rfl, hB, hM⟩
      rw [List.length_map] at c8 c9
      rw [List.length_map, List.length_map] at hV
      have HV := Lib.hid hV; clear hV hB hM hpk
      have hb := World.block_lt_of_cell? wr _ c0
      have hfr : Fr [] w (wr.alloc (.cells (actCells a (.slice ao a.bytes.length cb) (.slice ao' a.marks.length cb')) 35)) := hF.out.alloc _
      have HFR := Lib.hid hfr; clear hfr
      go_wp2_with fail
      refine (print_any (B := B) HS.out a (.slice ao a.bytes.length cb) (.slice ao' a.marks.length cb') _ (hG.fr0 HFR.out) ok (HV.out.fr0 ((Fr.refl [] wr).alloc _))).mono ?_
      rintro e w2 ⟨s, hL, hcase, hf2⟩
      obtain ⟨p1, p2, p3⟩ := HPK.out s hL
      rcases hcase with ⟨_, _, rfl⟩ | ⟨hno, _⟩
      · subst p3
        have F2 := Lib.hid (HFR.out.trans hf2)
        have cc1 : (9223372036854775807 < (f a).size + 1) = False := eq_false (by omega)
        have cc2 : (9223372036854775807 < o.size + ((f a).size + 1)) = False := eq_false (by omega)
        clear hL hf2 p1 p2
        go_wp2_with fail
        go_roundw
        case rel => exact ⟨k + 1, by omega, by go_num, by rw [HT.out], F2⟩
        case measure => simp [RowKit.intOf]; omega
      · exact absurd ⟨p1, p2⟩ hno
    · have hke : k = l.length := by omega
      subst hke
      rw [List.take_length]
      generalize ho : textS f l ⟨#[]⟩ = o at *
      have HO := Lib.hid ho
      clear ho
      have t1 : decide ((2000 : Int) < (l.length : Int)) = true := decide_eq_true (by omega)
      go_wp2_with fail
      go_step3
      exact ⟨rfl, hF.out, rfl, rfl⟩
end Go.Proofs.YtnldlakcopbpcaaGreatDoor
