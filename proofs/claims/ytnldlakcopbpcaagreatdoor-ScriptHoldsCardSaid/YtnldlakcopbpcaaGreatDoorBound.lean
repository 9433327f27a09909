/- Plain: how long an act's line may be. -/
import Derived.Test.YtnldlakcopbpcaaGreatDoorActOk
namespace Go.Proofs.YtnldlakcopbpcaaGreatDoor
open Go.RowKit Go.Lib

def wt (c : UInt8) : Nat := if c.toNat = 116 ∨ c.toNat = 109 ∨ c.toNat = 97 ∨ c.toNat = 110 then 21 else if c.toNat = 112 ∨ c.toNat = 113 then 400 else if c.toNat = 98 then 1001 else 81
def wts : List UInt8 → Nat
  | [] => 0
  | c :: cs => 1 + wt c + wts cs

theorem ShowS.wt {c : UInt8} {a : ActD} {t : ByteArray} (h : ShowS (c.toNat : Int) a t) (ok : ActOk a) : t.size ≤ wt c := by
  have hi : ∀ n, isI64 n → (itoaB n).size ≤ 21 := fun n hn => by
    have := Lib.itoa_length_le n hn.1 hn.2
    show (Lib.itoa n).toArray.size ≤ 21
    simpa using this
  unfold ShowS at h
  unfold Proofs.YtnldlakcopbpcaaGreatDoor.wt
  split at h
  · rw [h, if_pos (by omega)]; exact hi _ ok.thread
  split at h
  · rw [h, if_pos (by omega)]; exact hi _ ok.n
  split at h
  · rw [h, if_pos (by omega)]; exact hi _ ok.at_
  split at h
  · rw [h, if_pos (by omega)]; exact hi _ ok.opn
  split at h
  · rw [h, if_neg (by omega), if_pos (by omega)]; exact ok.path
  split at h
  · rw [h, if_neg (by omega), if_pos (by omega)]; exact ok.dest
  split at h
  · rw [if_neg (by omega), if_neg (by omega), if_pos (by omega)]; exact h.1
  split at h
  · rw [if_neg (by omega), if_neg (by omega), if_neg (by omega)]; exact h.1
  · exact h.elim

theorem AddS.wts {a : ActD} (ok : ActOk a) : ∀ {cs : List UInt8} {s s' : ByteArray}, AddS cs a s s' → s'.size ≤ s.size + wts cs
  | [], s, s', h => by rw [show s' = s from h]; simp
  | c :: cs, s, s', ⟨t, hT, h⟩ => by
    have h1 := AddS.wts ok h
    have h2 := hT.wt ok
    rw [ByteArray.size_append, ByteArray.size_append] at h1
    have h3 : s'.size ≤ s.size + (1 + t.size) + Proofs.YtnldlakcopbpcaaGreatDoor.wts cs := h1
    simp only [Proofs.YtnldlakcopbpcaaGreatDoor.wts]; omega

theorem verb_wts (k : Int) : (verbAt k).1.size + wts (verbAt k).2.data.toList ≤ 100 := by
  by_cases h1 : k = 1
  · subst h1; decide
  by_cases h2 : k = 2
  · subst h2; decide
  by_cases h3 : k = 3
  · subst h3; decide
  by_cases h4 : k = 4
  · subst h4; decide
  by_cases h5 : k = 5
  · subst h5; decide
  have e : verbAt k = (⟨#[]⟩, ⟨#[]⟩) := by simp [verbAt, h1, h2, h3, h4, h5]
  rw [e]; decide
theorem op_wts (k : Int) : (opAt k).1.size + wts (opAt k).2.data.toList ≤ 1500 := by
  have hs := (let_op k)
  by_cases h1 : k = 3
  · subst h1; decide
  by_cases h2 : k = 8
  · subst h2; decide
  by_cases h3 : k = 9
  · subst h3; decide
  by_cases h4 : k = 10
  · subst h4; decide
  by_cases h5 : k = 11
  · subst h5; decide
  by_cases g1 : k = 1
  · subst g1; decide
  by_cases g2 : k = 2
  · subst g2; decide
  by_cases g4 : k = 4
  · subst g4; decide
  by_cases g5 : k = 5
  · subst g5; decide
  by_cases g6 : k = 6
  · subst g6; decide
  by_cases g7 : k = 7
  · subst g7; decide
  have e : opAt k = (⟨#[]⟩, ⟨#[]⟩) := by simp [opAt, h1, h2, h3, h4, h5, g1, g2, g4, g5, g6, g7]
  rw [e]; decide

/-- A line takes at most 1601 bytes. -/
theorem LaidS.bound {a : ActD} {s : ByteArray} (h : LaidS a s) (ok : ActOk a) : s.size ≤ 1601 := by
  obtain ⟨s1, h1, h2⟩ := h
  have b1 := AddS.wts ok h1
  have v := verb_wts a.kind
  have o := op_wts a.opk
  split at h2
  · have b2 := AddS.wts ok h2
    rw [ByteArray.size_append, ByteArray.size_append] at b2
    have b3 : s.size ≤ s1.size + (1 + (opAt a.opk).1.size) + Proofs.YtnldlakcopbpcaaGreatDoor.wts (opAt a.opk).2.data.toList := b2
    omega
  · subst h2; omega
end Go.Proofs.YtnldlakcopbpcaaGreatDoor
