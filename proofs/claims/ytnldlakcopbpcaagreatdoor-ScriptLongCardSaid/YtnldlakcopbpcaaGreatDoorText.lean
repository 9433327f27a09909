/- Contract: Text where all acts print. -/
import Derived.Test.YtnldlakcopbpcaaGreatDoorPrint
import Derived.Test.YtnldlakcopbpcaaGreatDoorFew
namespace Go.Proofs.YtnldlakcopbpcaaGreatDoor
open Go.RowKit Go.Lib

/-- Acts that print, each as f says. -/
def Prints (f : ActD → ByteArray) (l : List ActD) : Prop := ∀ a ∈ l, ActOk a ∧ (f a).size ≤ 30 ∧ ∀ s, LaidS a s → parseE s = 0 ∧ parseA s = a ∧ s = f a
def textS (f : ActD → ByteArray) : List ActD → ByteArray → ByteArray
  | [], o => o
  | a :: l, o => textS f l (o ++ (f a ++ (⟨#[10]⟩ : ByteArray)))
theorem textS_snoc (f : ActD → ByteArray) : ∀ (l : List ActD) (a : ActD) (o : ByteArray), textS f (l ++ [a]) o = textS f l o ++ (f a ++ (⟨#[10]⟩ : ByteArray))
  | [], a, o => rfl
  | b :: l, a, o => by simp only [List.cons_append, textS]; exact textS_snoc f l a _
theorem textS_size {f : ActD → ByteArray} : ∀ {l : List ActD} {o : ByteArray}, (∀ a ∈ l, (f a).size ≤ 30) → (textS f l o).size ≤ o.size + 31 * l.length
  | [], o, _ => by simp [textS]
  | a :: l, o, h => by
    have h1 := textS_size (f := f) (l := l) (o := o ++ (f a ++ (⟨#[10]⟩ : ByteArray))) (fun x hx => h x (by simp [hx]))
    rw [ByteArray.size_append, ByteArray.size_append] at h1
    have h2 := h a (by simp)
    have h3 : (textS f l (o ++ (f a ++ (⟨#[10]⟩ : ByteArray)))).size ≤ o.size + ((f a).size + 1) + 31 * l.length := h1
    simp only [textS, List.length_cons]; omega

def TextRel (f : ActD → ByteArray) (l : List ActD) (w : World) (o i : Value) (wr : World) : Prop :=
  ∃ k : Nat, k ≤ l.length ∧ i = .int .i64 (k : Int) ∧ o = .string (textS f (l.take k) ⟨#[]⟩) ∧ Hid (Fr [] w wr)

set_option maxRecDepth 100000 in
set_option maxHeartbeats 4000000 in
theorem text_some {B : Nat} (hsame : SameC) (f : ActD → ByteArray) (l : List ActD) (b off cap : Nat) (w : World) (hG : Gl B w) (hn : l.length ≤ 2000) (hp : Prints f l) (hc : ∀ i (h : i < l.length), ActIn w b (off + i * 10) l[i]) (hz : (textS f l ⟨#[]⟩).size ≤ 65536) :
    Calls Tryz.prog 12 #[.slice (some ⟨b, off, none⟩) l.length cap] w fun e w' => e = .returned (.tuple #[.string (textS f l ⟨#[]⟩), .int .i64 0]) ∧ Fr [] w w' := by
  have HC := Lib.hid hc; have HP := Lib.hid hp; have HS := Lib.hid hsame; have HZ := Lib.hid hz; clear hc hp hsame hz
  go_enter Tryz.func12, Tryz.ntmps12
  go_wp2_with fail
  go_step3
  go_wp2_with fail
  go_loopw [2, 5, 6, 7, 10] (fun o _ _ _ i wr => TextRel f l w o i wr) (fun _ _ _ _ i _ => l.length - (RowKit.intOf i).toNat)
  case atStart => exact ⟨0, by omega, rfl, rfl, Lib.hid (Fr.refl _ _)⟩
  case round =>
    obtain ⟨k, hk, rfl, rfl, hF⟩ := hrel
    by_cases hlt : k < l.length
    · obtain ⟨vb, vm, hB, hM, c0, c1, c2, c3, c4, c5, c6, c7, c8, c9⟩ := (HC.out k hlt).fr0 hF.out
      obtain ⟨ao, cb, rfl⟩ := hB.slice
      obtain ⟨ao', cb', rfl⟩ := hM.slice
      have HT : Hid (textS f (l.take (k + 1)) ⟨#[]⟩ = textS f (l.take k) ⟨#[]⟩ ++ (f l[k] ++ (⟨#[10]⟩ : ByteArray))) := Lib.hid (by rw [List.take_succ_eq_append_getElem hlt, textS_snoc])
      have hpk := HP.out l[k] (List.getElem_mem hlt)
      have hsz : (textS f (l.take k) ⟨#[]⟩).size ≤ 0 + 31 * (l.take k).length := textS_size (fun a ha => (HP.out a (List.mem_of_mem_take ha)).2.1)
      have hlk : (l.take k).length ≤ 2000 := by rw [List.length_take]; omega
      generalize l[k] = a at *
      generalize textS f (l.take k) ⟨#[]⟩ = o at *
      have ok := hpk.1
      have hfa := hpk.2.1
      have HPK := Lib.hid hpk.2.2
      have hV : ActV wr a (.agg (actCells a (.slice ao (a.bytes.map u8v).length cb) (.slice ao' (a.marks.map Value.bool).length cb'))) := ⟨_, _, rfl, hB, hM⟩
      rw [List.length_map] at c8 c9
      rw [List.length_map, List.length_map] at hV
      have HV := Lib.hid hV; clear hV hB hM hpk
      have hb := World.block_lt_of_cell? wr _ c0
      have hfr : Fr [] w (wr.alloc (.cells (actCells a (.slice ao a.bytes.length cb) (.slice ao' a.marks.length cb')) 35)) := hF.out.alloc _
      have HFR := Lib.hid hfr; clear hfr
      go_wp2_with fail
      refine (print_any (B := B) HS.out a (.slice ao a.bytes.length cb) (.slice ao' a.marks.length cb') _ (hG.fr0 HFR.out) ok (HV.out.fr0 ((Fr.refl [] wr).alloc _))).mono ?_
      rintro e w2 ⟨s, hL, hcase, hf2⟩
      obtain ⟨p1, p2, p3⟩ := HPK.out s hL
      rcases hcase with ⟨_, _, rfl⟩ | ⟨hno, _⟩
      · subst p3
        have F2 := Lib.hid (HFR.out.trans hf2)
        have cc1 : (9223372036854775807 < (f a).size + 1) = False := eq_false (by omega)
        have cc2 : (9223372036854775807 < o.size + ((f a).size + 1)) = False := eq_false (by omega)
        clear hL hf2 p1 p2
        go_wp2_with fail
        go_roundw
        case rel => exact ⟨k + 1, by omega, by go_num, by rw [HT.out], F2⟩
        case measure => simp [RowKit.intOf]; omega
      · exact absurd ⟨p1, p2⟩ hno
    · have hke : k = l.length := by omega
      subst hke
      rw [List.take_length]
      have hz := HZ.out
      generalize ho : textS f l ⟨#[]⟩ = o at *
      have HO := Lib.hid ho
      clear ho
      have t1 : decide ((2000 : Int) < (l.length : Int)) = false := decide_eq_false (by omega)
      have t2 : decide ((65536 : Int) < (o.size : Int)) = false := decide_eq_false (by omega)
      go_wp2_with fail
      rw [Exit.noGoto_ret]
      exact bodyPost_ret (v := .tuple #[.string o, .int .i64 0]) (by simp [results, Tryz.results12, go_sem]) rfl ⟨by rw [HO.out], hF.out⟩
end Go.Proofs.YtnldlakcopbpcaaGreatDoor
