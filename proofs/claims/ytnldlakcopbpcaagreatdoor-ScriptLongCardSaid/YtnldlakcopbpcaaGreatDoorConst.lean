/- Plain: what the constant texts of works are. -/
import Derived.Test.YtnldlakcopbpcaaGreatDoorSmall
namespace Go.Proofs.YtnldlakcopbpcaaGreatDoor
open Go.RowKit Go.Lib

def actQ : ActD := { kind := 1, opk := 10, path := ⟨#[47, 102]⟩, at_ := 3, bytes := [104, 105] }
theorem parse_q : parseS ⟨#[113, 117, 101, 117, 101, 32, 48, 32, 119, 114, 105, 116, 101, 32, 47, 102, 32, 51, 32, 54, 56, 54, 57]⟩ = some actQ := by kernel_rfl
theorem parse_s : parseS ⟨#[115, 116, 101, 112, 32, 49, 32, 50, 48]⟩ = some { kind := 2, thread := 1, n := 20 } := by kernel_rfl
theorem parse_c : parseS ⟨#[99, 114, 97, 115, 104, 32, 48, 49]⟩ = some { kind := 4, marks := [false, true] } := by kernel_rfl
theorem parse_e : parseS ⟨#[101, 118, 105, 99, 116, 32, 48, 48, 55]⟩ = none := by kernel_rfl
theorem parse_r : parseS ⟨#[113, 117, 101, 117, 101, 32, 48, 32, 114, 101, 97, 100, 32, 47, 102]⟩ = none := by kernel_rfl
theorem parse_v : parseS ⟨#[114, 101, 99, 111, 118, 101, 114, 32, 53]⟩ = some { kind := 5, n := 5 } := by kernel_rfl
theorem parse_k : parseS ⟨#[99, 114, 97, 115, 104, 32, 45]⟩ = some { kind := 4 } := by kernel_rfl
theorem parse_1 : parseS ⟨#[115, 116, 101, 112, 32, 48, 32, 49]⟩ = some { kind := 2, thread := 0, n := 1 } := by kernel_rfl
theorem parse_x : parseS ⟨#[120]⟩ = none := by kernel_rfl

theorem recover5 : (⟨#[114, 101, 99, 111, 118, 101, 114]⟩ : ByteArray) ++ ((⟨#[32]⟩ : ByteArray) ++ itoaB 5) = ⟨#[114, 101, 99, 111, 118, 101, 114, 32, 53]⟩ := by kernel_rfl
theorem laid_v {s : ByteArray} (h : LaidS { kind := 5, n := 5 } s) : s = ⟨#[114, 101, 99, 111, 118, 101, 114, 32, 53]⟩ := by
  obtain ⟨s1, h1, h2⟩ := h
  have h3 : s = s1 := h2
  obtain ⟨t, ht, h4⟩ := h1
  have ht' : t = itoaB 5 := ht
  have h5 : s1 = (⟨#[114, 101, 99, 111, 118, 101, 114]⟩ : ByteArray) ++ ((⟨#[32]⟩ : ByteArray) ++ t) := h4
  rw [h3, h5, ht']
  exact recover5

theorem laid_k {s : ByteArray} (h : LaidS { kind := 4 } s) : s = ⟨#[99, 114, 97, 115, 104, 32, 45]⟩ := by
  obtain ⟨s1, h1, h2⟩ := h
  have h3 : s = s1 := h2
  obtain ⟨t, ht, h4⟩ := h1
  have ht' : t.size ≤ 81 ∧ (([] : List Bool) = [] → t = ⟨#[45]⟩) := ht
  have h5 : s1 = (⟨#[99, 114, 97, 115, 104]⟩ : ByteArray) ++ ((⟨#[32]⟩ : ByteArray) ++ t) := h4
  rw [h3, h5, ht'.2 rfl]
  rfl
end Go.Proofs.YtnldlakcopbpcaaGreatDoor
