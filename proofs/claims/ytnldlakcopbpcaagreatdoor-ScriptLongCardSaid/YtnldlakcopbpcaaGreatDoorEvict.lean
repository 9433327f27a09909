/- Plain: the lines of the acts of ScriptLong. -/
import Derived.Test.YtnldlakcopbpcaaGreatDoorActOk
namespace Go.Proofs.YtnldlakcopbpcaaGreatDoor
open Go.RowKit Go.Lib

def evictS (n : Nat) : ByteArray := (⟨#[101, 118, 105, 99, 116]⟩ : ByteArray) ++ ((⟨#[32]⟩ : ByteArray) ++ itoaB (n : Int))
def evictOk (n : Nat) : Bool :=
  match parseS (evictS n) with
  | some a => a.kind == 3 && a.thread == 0 && a.n == (n : Int) && a.opk == 0 && a.path.size == 0 && a.dest.size == 0 && a.at_ == 0 && a.opn == 0 && a.bytes.isEmpty && a.marks.isEmpty
  | none => false

theorem ev_0 : (List.range' 0 100).all evictOk = true := by kernel_rfl
theorem ev_1 : (List.range' 100 100).all evictOk = true := by kernel_rfl
theorem ev_2 : (List.range' 200 100).all evictOk = true := by kernel_rfl
theorem ev_3 : (List.range' 300 100).all evictOk = true := by kernel_rfl
theorem ev_4 : (List.range' 400 100).all evictOk = true := by kernel_rfl
theorem ev_5 : (List.range' 500 100).all evictOk = true := by kernel_rfl
theorem ev_6 : (List.range' 600 100).all evictOk = true := by kernel_rfl
theorem ev_7 : (List.range' 700 100).all evictOk = true := by kernel_rfl
theorem ev_8 : (List.range' 800 100).all evictOk = true := by kernel_rfl
theorem ev_9 : (List.range' 900 100).all evictOk = true := by kernel_rfl
theorem ev_10 : (List.range' 1000 100).all evictOk = true := by kernel_rfl
theorem ev_11 : (List.range' 1100 100).all evictOk = true := by kernel_rfl
theorem ev_12 : (List.range' 1200 100).all evictOk = true := by kernel_rfl
theorem ev_13 : (List.range' 1300 100).all evictOk = true := by kernel_rfl
theorem ev_14 : (List.range' 1400 100).all evictOk = true := by kernel_rfl
theorem ev_15 : (List.range' 1500 100).all evictOk = true := by kernel_rfl
theorem ev_16 : (List.range' 1600 100).all evictOk = true := by kernel_rfl
theorem ev_17 : (List.range' 1700 100).all evictOk = true := by kernel_rfl
theorem ev_18 : (List.range' 1800 100).all evictOk = true := by kernel_rfl
theorem ev_19 : (List.range' 1900 100).all evictOk = true := by kernel_rfl
theorem ev_20 : (List.range' 2000 100).all evictOk = true := by kernel_rfl
theorem ev_in {m n : Nat} (h : (List.range' m 100).all evictOk = true) (h1 : m ≤ n) (h2 : n < m + 100) : evictOk n = true := List.all_eq_true.1 h n (List.mem_range'_1.2 ⟨h1, h2⟩)
theorem evict_all (n : Nat) (h : n < 2100) : evictOk n = true := by
  have : (0 ≤ n ∧ n < 0 + 100) ∨ (100 ≤ n ∧ n < 100 + 100) ∨ (200 ≤ n ∧ n < 200 + 100) ∨ (300 ≤ n ∧ n < 300 + 100) ∨ (400 ≤ n ∧ n < 400 + 100) ∨ (500 ≤ n ∧ n < 500 + 100) ∨ (600 ≤ n ∧ n < 600 + 100) ∨ (700 ≤ n ∧ n < 700 + 100) ∨ (800 ≤ n ∧ n < 800 + 100) ∨ (900 ≤ n ∧ n < 900 + 100) ∨ (1000 ≤ n ∧ n < 1000 + 100) ∨ (1100 ≤ n ∧ n < 1100 + 100) ∨ (1200 ≤ n ∧ n < 1200 + 100) ∨ (1300 ≤ n ∧ n < 1300 + 100) ∨ (1400 ≤ n ∧ n < 1400 + 100) ∨ (1500 ≤ n ∧ n < 1500 + 100) ∨ (1600 ≤ n ∧ n < 1600 + 100) ∨ (1700 ≤ n ∧ n < 1700 + 100) ∨ (1800 ≤ n ∧ n < 1800 + 100) ∨ (1900 ≤ n ∧ n < 1900 + 100) ∨ (2000 ≤ n ∧ n < 2000 + 100) := by omega
  rcases this with ⟨h1, h2⟩ | ⟨h1, h2⟩ | ⟨h1, h2⟩ | ⟨h1, h2⟩ | ⟨h1, h2⟩ | ⟨h1, h2⟩ | ⟨h1, h2⟩ | ⟨h1, h2⟩ | ⟨h1, h2⟩ | ⟨h1, h2⟩ | ⟨h1, h2⟩ | ⟨h1, h2⟩ | ⟨h1, h2⟩ | ⟨h1, h2⟩ | ⟨h1, h2⟩ | ⟨h1, h2⟩ | ⟨h1, h2⟩ | ⟨h1, h2⟩ | ⟨h1, h2⟩ | ⟨h1, h2⟩ | ⟨h1, h2⟩
  · exact ev_in ev_0 h1 h2
  · exact ev_in ev_1 h1 h2
  · exact ev_in ev_2 h1 h2
  · exact ev_in ev_3 h1 h2
  · exact ev_in ev_4 h1 h2
  · exact ev_in ev_5 h1 h2
  · exact ev_in ev_6 h1 h2
  · exact ev_in ev_7 h1 h2
  · exact ev_in ev_8 h1 h2
  · exact ev_in ev_9 h1 h2
  · exact ev_in ev_10 h1 h2
  · exact ev_in ev_11 h1 h2
  · exact ev_in ev_12 h1 h2
  · exact ev_in ev_13 h1 h2
  · exact ev_in ev_14 h1 h2
  · exact ev_in ev_15 h1 h2
  · exact ev_in ev_16 h1 h2
  · exact ev_in ev_17 h1 h2
  · exact ev_in ev_18 h1 h2
  · exact ev_in ev_19 h1 h2
  · exact ev_in ev_20 h1 h2

theorem bytes_zero {s : ByteArray} (h : s.size = 0) : s = ⟨#[]⟩ := by
  obtain ⟨d⟩ := s
  have : d = #[] := Array.eq_empty_of_size_eq_zero h
  rw [this]

theorem evict_parse (n : Nat) (h : n ≤ 2001) : parseS (evictS n) = some { kind := 3, n := (n : Int) } := by
  have h1 : evictOk n = true := evict_all n (by omega)
  unfold evictOk at h1
  cases e : parseS (evictS n) with
  | none => rw [e] at h1; cases h1
  | some a =>
    rw [e] at h1
    simp only [Bool.and_eq_true, beq_iff_eq, List.isEmpty_iff] at h1
    obtain ⟨⟨⟨⟨⟨⟨⟨⟨⟨g0, g1⟩, g2⟩, g3⟩, g4⟩, g5⟩, g6⟩, g7⟩, g8⟩, g9⟩ := h1
    have g4' := bytes_zero g4
    have g5' := bytes_zero g5
    cases a
    simp_all

theorem laid_evict {n : Nat} {s : ByteArray} (h : LaidS { kind := 3, n := (n : Int) } s) : s = evictS n := by
  obtain ⟨s1, h1, h2⟩ := h
  have h3 : s = s1 := h2
  obtain ⟨t, ht, h4⟩ := h1
  have ht' : t = itoaB (n : Int) := ht
  have h5 : s1 = (⟨#[101, 118, 105, 99, 116]⟩ : ByteArray) ++ ((⟨#[32]⟩ : ByteArray) ++ t) := h4
  rw [h3, h5, ht']
  rfl
end Go.Proofs.YtnldlakcopbpcaaGreatDoor
