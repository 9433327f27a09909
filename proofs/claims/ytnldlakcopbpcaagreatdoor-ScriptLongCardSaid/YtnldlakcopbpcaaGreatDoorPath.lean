/- Contracts: the reading of a path and of a half of a byte. -/
import Derived.Test.YtnldlakcopbpcaaGreatDoorNum
namespace Go.Proofs.YtnldlakcopbpcaaGreatDoor
open Go.RowKit Go.Lib

def pathS (s : ByteArray) : Bool := decide (1 ≤ s.size) && decide (s.size ≤ 300) && !Lib.contains s.data.toList [10]

def StrOk (s : ByteArray) (w : World) (e : Ending) (w' : World) : Prop := e = .returned (.string s) ∧ w = w'
def No380 (w : World) (e : Ending) (w' : World) : Prop := Panic380 e ∧ w = w'

theorem contains_any {B : Nat} (s sub : ByteArray) (w : World) (hG : Gl B w) (hs : s.size ≤ 1000000) :
    Calls Tryz.prog 72 #[.string s, .string sub] w fun e w' => e = .returned (.bool (Lib.contains s.data.toList sub.data.toList)) ∧ w = w' := by
  obtain ⟨m, hm⟩ := hG.maxLen
  exact (Tryz.strings_Contains s sub m w (by omega) hm).mono fun _ _ ⟨h1, h2⟩ => ⟨h1, h2.symm⟩

set_option maxRecDepth 100000 in
set_option maxHeartbeats 1000000 in
theorem path_ok {B : Nat} (s : ByteArray) (w : World) (hG : Gl B w) (h : pathS s = true) :
    Calls Tryz.prog 60 #[.string s] w (StrOk s w) := by
  simp only [pathS, Bool.and_eq_true, decide_eq_true_eq, Bool.not_eq_true'] at h
  obtain ⟨⟨h1, h2⟩, h3⟩ := h
  have e1 : decide ((1 : Int) ≤ (s.size : Int)) = true := by simp; omega
  have e2 : decide ((s.size : Int) ≤ 300) = true := by simp; omega
  have H3 := Lib.hid h3; clear h3
  go_enter Tryz.func60, Tryz.ntmps60
  go_wp2_with fail
  refine (contains_any s _ _ hG (by omega)).mono ?_
  rintro e w1 ⟨rfl, rfl⟩
  rw [H3.out]
  go_wp2_with fail
  refine (must_ok 380 _).mono ?_
  rintro e w3 ⟨rfl, rfl⟩
  go_wp2_with fail
  go_ret
  exact ⟨rfl, rfl⟩

set_option maxRecDepth 100000 in
set_option maxHeartbeats 1000000 in
theorem path_no {B : Nat} (s : ByteArray) (w : World) (hG : Gl B w) (h : pathS s = false) :
    Calls Tryz.prog 60 #[.string s] w (No380 w) := by
  by_cases h1 : 1 ≤ s.size
  · have e1 : decide ((1 : Int) ≤ (s.size : Int)) = true := by simp; omega
    by_cases h2 : s.size ≤ 300
    · have e2 : decide ((s.size : Int) ≤ 300) = true := by simp; omega
      have h3 : Lib.contains s.data.toList [10] = true := by simpa [pathS, h1, h2] using h
      have H3 := Lib.hid h3; clear h3 h
      go_enter Tryz.func60, Tryz.ntmps60
      go_wp2_with fail
      refine (contains_any s _ _ hG (by omega)).mono ?_
      rintro e w1 ⟨rfl, rfl⟩
      rw [H3.out]
      go_wp2_with fail
      refine (must_no 380 _).mono ?_
      rintro e w3 ⟨rfl, rfl⟩
      exact ⟨rfl, rfl, rfl⟩
    · have e2 : decide ((s.size : Int) ≤ 300) = false := by simp; omega
      clear h
      go_enter Tryz.func60, Tryz.ntmps60
      go_wp2_with fail
      refine (must_no 380 _).mono ?_
      rintro e w3 ⟨rfl, rfl⟩
      exact ⟨rfl, rfl, rfl⟩
  · have e1 : decide ((1 : Int) ≤ (s.size : Int)) = false := by simp; omega
    clear h
    go_enter Tryz.func60, Tryz.ntmps60
    go_wp2_with fail
    refine (must_no 380 _).mono ?_
    rintro e w3 ⟨rfl, rfl⟩
    exact ⟨rfl, rfl, rfl⟩

def hexD : List UInt8 := [48, 49, 50, 51, 52, 53, 54, 55, 56, 57, 97, 98, 99, 100, 101, 102]
def halfK (c : UInt8) : Int := Lib.indexByte hexD c
def halfS (c : UInt8) : Option Nat := if 0 ≤ halfK c then some (halfK c).toNat else none

theorem halfK_lt (c : UInt8) : halfK c < 16 := by
  unfold halfK
  have h : ∀ (l : List UInt8), Lib.indexByte l c < l.length + (if l = [] then 1 else 0) := by
    intro l
    induction l with
    | nil => simp [Lib.indexByte]
    | cons b l ih =>
      have hn : Lib.indexByte [] c = -1 := rfl
      simp only [Lib.indexByte, List.length_cons]
      split
      · simp; try omega
      · split
        · simp; try omega
        · rename_i h2
          by_cases hl : l = []
          · subst hl; simp [hn] at h2
          · simp [hl] at ih; simp; omega
  have := h hexD
  simpa [hexD] using this

def HalfOk (n : Nat) (w : World) (e : Ending) (w' : World) : Prop := e = .returned (.int .u8 (n : Int)) ∧ w = w'

theorem index_half (c : UInt8) (w : World) : Calls Tryz.prog 73 #[.string ⟨#[48, 49, 50, 51, 52, 53, 54, 55, 56, 57, 97, 98, 99, 100, 101, 102]⟩, .int .u8 (c.toNat : Int)] w fun e w' => e = .returned (.int .i64 (halfK c)) ∧ w = w' :=
  (Tryz.strings_IndexByte _ _ w).mono fun _ _ ⟨h1, h2⟩ => ⟨by rw [h1]; simp [halfK, hexD], h2.symm⟩

set_option maxRecDepth 100000 in
set_option maxHeartbeats 1000000 in
theorem half_ok (c : UInt8) (n : Nat) (w : World) (h : halfS c = some n) : Calls Tryz.prog 62 #[.int .u8 (c.toNat : Int)] w (HalfOk n w) := by
  unfold halfS at h
  split at h
  · rename_i h0
    have h1 := halfK_lt c
    obtain rfl : (halfK c).toNat = n := by simpa using h
    clear h
    generalize hk : halfK c = k at *
    have HK := Lib.hid hk; clear hk
    obtain ⟨n, rfl⟩ := Int.eq_ofNat_of_zero_le h0
    rw [Int.toNat_natCast]
    have ew : IntKind.u8.wrap (n : Int) = (n : Int) := by rw [IntKind.wrap_u8]; omega
    have e1 : decide ((0 : Int) ≤ (n : Int)) = true := by simp
    go_enter Tryz.func62, Tryz.ntmps62
    go_wp2_with fail
    refine (index_half c _).mono ?_
    rintro e w1 ⟨rfl, rfl⟩
    rw [HK.out]
    go_wp2_with fail
    refine (must_ok 380 _).mono ?_
    rintro e w3 ⟨rfl, rfl⟩
    go_wp2_with fail
    go_ret
    exact ⟨rfl, rfl⟩
  · cases h

set_option maxRecDepth 100000 in
set_option maxHeartbeats 1000000 in
theorem half_no (c : UInt8) (w : World) (h : halfS c = none) : Calls Tryz.prog 62 #[.int .u8 (c.toNat : Int)] w (No380 w) := by
  unfold halfS at h
  split at h
  · cases h
  · rename_i h0
    clear h
    generalize hk : halfK c = k at *
    have HK := Lib.hid hk; clear hk
    have e1 : decide ((0 : Int) ≤ k) = false := by simpa using h0
    go_enter Tryz.func62, Tryz.ntmps62
    go_wp2_with fail
    refine (index_half c _).mono ?_
    rintro e w1 ⟨rfl, rfl⟩
    rw [HK.out]
    go_wp2_with fail
    refine (must_no 380 _).mono ?_
    rintro e w3 ⟨rfl, rfl⟩
    exact ⟨rfl, rfl, rfl⟩
end Go.Proofs.YtnldlakcopbpcaaGreatDoor
