/- Contracts: numbers as texts, and the reading of a number, a path, a half of a byte. -/
import Derived.Test.YtnldlakcopbpcaaGreatDoorBase
import Derived.Test.YtnldlakcopbpcaaGreatDoorShelf
namespace Go.Proofs.YtnldlakcopbpcaaGreatDoor
open Go.RowKit Go.Lib Go.Sort

theorem fr_grow {w : World} (k : Nat) (os : Array Obj) : Fr [] w (grow (w.drewN k) os) := by
  refine ⟨rfl, rfl, rfl, by simp [grow], fun i hi _ => ?_⟩
  show ((w.heap ++ os)[i]?) = _
  rw [Array.getElem?_append_left hi]
theorem fr_bytesWorld (w : World) (e : TypeId) (s : ByteArray) : Fr [] w (Lib.bytesWorld w e s) := by
  have hsz : w.heap.size ≤ (Lib.bytesWorld w e s).heap.size := by
    simp [Lib.bytesWorld, World.freeze, World.alloc, World.drew, -World.alloc_eq, -World.drew_eq]
  have ho : (Lib.bytesWorld w e s).os = w.os ∧ (Lib.bytesWorld w e s).tape = w.tape ∧ (Lib.bytesWorld w e s).output = w.output := by
    simp [Lib.bytesWorld, World.freeze, World.alloc, World.drew, -World.alloc_eq, -World.drew_eq]
  exact ⟨ho.1, ho.2.1, ho.2.2, hsz, fun k hk _ => Lib.bytesWorld_at_old w e s k hk⟩

theorem itoa_any {B : Nat} (n : Int) (w : World) (hG : Gl B w) (h0 : -9223372036854775808 ≤ n) (h1 : n ≤ 9223372036854775807) :
    Calls Tryz.prog 58 #[.int .i64 n] w fun e w' => e = .returned (.string ⟨(Lib.itoa n).toArray⟩) ∧ Fr [] w w' :=
  (Tryz.strconv_Itoa n h0 h1 w hG.tab).mono fun _ _ ⟨he, k, os, hw⟩ => ⟨he, by subst hw; exact fr_grow k os⟩

theorem atoi_ok {v : Int} (s : ByteArray) (w : World) (hs : s.size ≤ 1000000) (h : Lib.atoiAll s.data.toList = .ok v) :
    Calls Tryz.prog 70 #[.string s] w fun e w' => e = .returned (.tuple #[.int .i64 v, .nilIface]) ∧ Fr [] w w' :=
  (Tryz.strconv_Atoi_ok s (by omega) v h w).mono fun _ _ ⟨he, hw⟩ => ⟨he, by rcases hw with rfl | ⟨t, rfl⟩; exact Fr.refl _ _; exact fr_bytesWorld _ _ _⟩

theorem atoi_no {B : Nat} (s : ByteArray) (w : World) (hG : Gl B w) (hs : s.size ≤ 1000000) (h : ∀ v, Lib.atoiAll s.data.toList ≠ .ok v) :
    Calls Tryz.prog 70 #[.string s] w fun e w' => (∃ (n : Int) (tp : TypeId) (x : Value), e = .returned (.tuple #[.int .i64 n, .iface tp x])) ∧ Fr [] w w' := by
  cases e : Lib.atoiAll s.data.toList
  · rename_i v
    exact absurd e (h v)
  · obtain ⟨tp, p, hv⟩ := hG.syn
    exact (Any.strconv_Atoi_syntax_var Tryz.laysC172 s (by omega) e tp p w hv).mono fun _ _ ⟨_, he, _, _, hb⟩ => ⟨⟨_, _, _, he⟩, Fr.of_below hb⟩
  · obtain ⟨tp, p, hv⟩ := hG.rng
    exact (Tryz.strconv_Atoi_range_var s (by omega) e tp p w hv).mono fun _ _ ⟨_, he, _, _, hb⟩ => ⟨⟨_, _, _, he⟩, Fr.of_below hb⟩

def numberS (s : ByteArray) : Option Int :=
  match Lib.atoiAll s.data.toList with
  | .ok v => if s.size ≤ 9 ∧ Lib.itoa v = s.data.toList ∧ 0 ≤ v then some v else none
  | _ => none

def Panic380 (e : Ending) : Prop := e = .panicked [{ v := .iface 26 (.int .i64 380), recovered := false }]

def NumOk (v : Int) (w : World) (e : Ending) (w' : World) : Prop := e = .returned (.int .i64 v) ∧ Fr [] w w'
def NumNo (w : World) (e : Ending) (w' : World) : Prop := Panic380 e ∧ Fr [] w w'

theorem must_ok (e : Int) (w : World) :
    Calls Tryz.prog 33 #[.bool true, .int .i64 e] w fun r w' => r = .returned (.tuple #[]) ∧ w = w' := by
  go_enter Tryz.func33, Tryz.ntmps33
  go_wp2
  go_end0
  exact ⟨rfl, rfl⟩

theorem must_no (e : Int) (w : World) :
    Calls Tryz.prog 33 #[.bool false, .int .i64 e] w fun r w' => r = .panicked [{ v := .iface 26 (.int .i64 e), recovered := false }] ∧ w = w' := by
  go_enter Tryz.func33, Tryz.ntmps33
  go_wp2
  exact ⟨rfl, rfl, rfl⟩

theorem str_beq (a b : ByteArray) : (a == b) = decide (a.data.toList = b.data.toList) := by
  by_cases h : a = b
  · subst h
    have : (a == a) = true := (MapKept.bytes_beq a a).2 rfl
    simp [this]
  · have h1 : (a == b) = false := by
      cases e : (a == b) with
      | false => rfl
      | true => exact absurd ((MapKept.bytes_beq a b).1 e) h
    have h2 : ¬ a.data.toList = b.data.toList := fun e => h (by
      obtain ⟨x⟩ := a; obtain ⟨y⟩ := b
      have : x = y := by simpa using e
      rw [this])
    rw [h1]; simp [h2]

set_option maxRecDepth 100000 in
set_option maxHeartbeats 1000000 in
theorem number_ok {B : Nat} (s : ByteArray) (v : Int) (w : World) (hG : Gl B w) (hs : s.size ≤ 1000000) (h : numberS s = some v) :
    Calls Tryz.prog 56 #[.string s] w (NumOk v w) := by
  unfold numberS at h
  split at h
  · rename_i u hu
    split at h
    · rename_i hc
      obtain rfl : u = v := by simpa using h
      obtain ⟨h9, hit, h0⟩ := hc
      have hb := Lib.atoiAll_bounds hu
      have e2 : decide ((s.size : Int) ≤ 9) = true := by simp; omega
      have e3 : (⟨(Lib.itoa u).toArray⟩ : ByteArray) = s := by rw [hit]
      have e4 : decide ((0 : Int) ≤ u) = true := by simpa using h0
      clear h
      have HU := Lib.hid hu; have HI := Lib.hid e3; clear hu hit e3
      go_enter Tryz.func56, Tryz.ntmps56
      go_wp2_with fail
      refine (atoi_ok s _ hs HU.out).mono ?_
      rintro e w1 ⟨rfl, hf1⟩
      have HF1 := Lib.hid hf1; clear hf1
      go_wp2_with fail
      refine (itoa_any u _ (hG.fr0 HF1.out) hb.1 hb.2).mono ?_
      rintro e w2 ⟨rfl, hf2⟩
      have HF2 := Lib.hid hf2; clear hf2
      rw [HI.out]
      go_wp2_with fail
      refine (must_ok 380 _).mono ?_
      rintro e w3 ⟨rfl, rfl⟩
      go_wp2_with fail
      go_ret
      exact ⟨rfl, HF1.out.trans HF2.out⟩
    · cases h
  · cases h

set_option maxRecDepth 100000 in
set_option maxHeartbeats 1000000 in
theorem number_no {B : Nat} (s : ByteArray) (w : World) (hG : Gl B w) (hs : s.size ≤ 1000000) (h : numberS s = none) :
    Calls Tryz.prog 56 #[.string s] w (NumNo w) := by
  unfold numberS at h
  split at h
  · rename_i u hu
    have hb := Lib.atoiAll_bounds hu
    have HU := Lib.hid hu; clear hu
    by_cases h9 : s.size ≤ 9
    · have e2 : decide ((s.size : Int) ≤ 9) = true := by simp; omega
      by_cases hit : Lib.itoa u = s.data.toList
      · have h0 : ¬ (0 : Int) ≤ u := fun h0 => by rw [if_pos ⟨h9, hit, h0⟩] at h; cases h
        have e3 : (⟨(Lib.itoa u).toArray⟩ : ByteArray) = s := by rw [hit]
        have e4 : decide ((0 : Int) ≤ u) = false := by simpa using h0
        have HI := Lib.hid e3
        clear h hit h0 e3
        go_enter Tryz.func56, Tryz.ntmps56
        go_wp2_with fail
        refine (atoi_ok s _ hs HU.out).mono ?_
        rintro e w1 ⟨rfl, hf1⟩
        have HF1 := Lib.hid hf1; clear hf1
        go_wp2_with fail
        refine (itoa_any u _ (hG.fr0 HF1.out) hb.1 hb.2).mono ?_
        rintro e w2 ⟨rfl, hf2⟩
        have HF2 := Lib.hid hf2; clear hf2
        rw [HI.out]
        go_wp2_with fail
        refine (must_no 380 _).mono ?_
        rintro e w3 ⟨rfl, rfl⟩
        exact ⟨rfl, rfl, HF1.out.trans HF2.out⟩
      · have e3 : ¬ Lib.itoa u = s.toList := by rw [Lib.toList_data]; exact hit
        clear h hit
        go_enter Tryz.func56, Tryz.ntmps56
        go_wp2_with fail
        refine (atoi_ok s _ hs HU.out).mono ?_
        rintro e w1 ⟨rfl, hf1⟩
        have HF1 := Lib.hid hf1; clear hf1
        go_wp2_with fail
        refine (itoa_any u _ (hG.fr0 HF1.out) hb.1 hb.2).mono ?_
        rintro e w2 ⟨rfl, hf2⟩
        have HF2 := Lib.hid hf2; clear hf2
        go_wp2_with fail
        refine (must_no 380 _).mono ?_
        rintro e w3 ⟨rfl, rfl⟩
        exact ⟨rfl, rfl, HF1.out.trans HF2.out⟩
    · have e2 : decide ((s.size : Int) ≤ 9) = false := by simp; omega
      clear h h9
      go_enter Tryz.func56, Tryz.ntmps56
      go_wp2_with fail
      refine (atoi_ok s _ hs HU.out).mono ?_
      rintro e w1 ⟨rfl, hf1⟩
      have HF1 := Lib.hid hf1; clear hf1
      go_wp2_with fail
      refine (must_no 380 _).mono ?_
      rintro e w3 ⟨rfl, rfl⟩
      exact ⟨rfl, rfl, HF1.out⟩
  · rename_i hn
    clear h
    have HN := Lib.hid (fun v => hn v); clear hn
    go_enter Tryz.func56, Tryz.ntmps56
    go_wp2_with fail
    refine (atoi_no s _ hG hs HN.out).mono ?_
    rintro e w1 ⟨⟨n, tp, x, rfl⟩, hf1⟩
    have HF1 := Lib.hid hf1; clear hf1
    go_wp2_with fail
    refine (must_no 380 _).mono ?_
    rintro e w3 ⟨rfl, rfl⟩
    exact ⟨rfl, rfl, HF1.out⟩
end Go.Proofs.YtnldlakcopbpcaaGreatDoor
