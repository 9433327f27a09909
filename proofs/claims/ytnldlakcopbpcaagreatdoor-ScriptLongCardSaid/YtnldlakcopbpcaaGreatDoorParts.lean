/- The map of parts that script builds: what a line needs, by a letter. -/
import Derived.Test.YtnldlakcopbpcaaGreatDoorBase
import Derived.Laws.EntriesVeiled
import Derived.Laws.ResultCell
import Derived.WideMake
namespace Go.Proofs.YtnldlakcopbpcaaGreatDoor
open Go.RowKit

def fnv (k : Nat) : Value := .func (.func k) #[] #[]
def clo (k b : Nat) : Value := .func (.func k) #[] #[.pointer (some ⟨b, 0, none⟩)]

set_option maxRecDepth 100000 in
set_option maxHeartbeats 400000 in
theorem num_any (k : Nat) (w : World) :
    Calls Tryz.prog 36 #[.func (.func k) #[] #[]] w fun e w' => e = .returned (.agg #[.func (.func 55) #[] #[.pointer (some ⟨w.heap.size, 0, none⟩)], .func (.func 57) #[] #[.pointer (some ⟨w.heap.size, 0, none⟩)]]) ∧
      (w.alloc (.cells #[.func (.func k) #[] #[]] 88)).alloc (.cells #[.func (.func 55) #[] #[.pointer (some ⟨w.heap.size, 0, none⟩)], .func (.func 57) #[] #[.pointer (some ⟨w.heap.size, 0, none⟩)]] 63) = w' := by
  have hmf : ∀ (fn : Fn) (first cap : Array Value) (w : World), (Instr.makeFunc fn first cap).run Tryz.prog w = .ok (.func fn first cap) w := fun _ _ _ _ => rfl
  go_enter Tryz.func36, Tryz.ntmps36
  go_wp2_with fail
  refine bodyPost_ret (v := _) (by simp [results, Tryz.results36, go_sem]) rfl ⟨rfl, ?_⟩
  rfl

set_option maxRecDepth 100000 in
set_option maxHeartbeats 400000 in
theorem way_any (k : Nat) (w : World) :
    Calls Tryz.prog 41 #[.func (.func k) #[] #[]] w fun e w' => e = .returned (.agg #[.func (.func 59) #[] #[.pointer (some ⟨w.heap.size, 0, none⟩)], .func (.func 61) #[] #[.pointer (some ⟨w.heap.size, 0, none⟩)]]) ∧
      (w.alloc (.cells #[.func (.func k) #[] #[]] 91)).alloc (.cells #[.func (.func 59) #[] #[.pointer (some ⟨w.heap.size, 0, none⟩)], .func (.func 61) #[] #[.pointer (some ⟨w.heap.size, 0, none⟩)]] 63) = w' := by
  have hmf : ∀ (fn : Fn) (first cap : Array Value) (w : World), (Instr.makeFunc fn first cap).run Tryz.prog w = .ok (.func fn first cap) w := fun _ _ _ _ => rfl
  go_enter Tryz.func41, Tryz.ntmps41
  go_wp2_with fail
  refine bodyPost_ret (v := _) (by simp [results, Tryz.results41, go_sem]) rfl ⟨rfl, ?_⟩
  rfl

/-- The same, said of a world that is a letter. -/
def Made (rd sh k : Nat) (w : World) (e : Ending) (w' : World) : Prop :=
  e = .returned (.agg #[.func (.func rd) #[] #[.pointer (some ⟨w.heap.size, 0, none⟩)], .func (.func sh) #[] #[.pointer (some ⟨w.heap.size, 0, none⟩)]]) ∧
    Fr [] w w' ∧ w'.cell? ⟨w.heap.size, 0, none⟩ = some (.func (.func k) #[] #[])

theorem num_made (k : Nat) (w : World) : Calls Tryz.prog 36 #[.func (.func k) #[] #[]] w (Made 55 57 k w) :=
  (num_any k w).mono fun e w' ⟨he, hw⟩ => ⟨he, by subst hw; exact ((Fr.refl _ _).alloc _).alloc _, by
    subst hw
    exact (((Fr.refl [] _).alloc _).cell0 (p := ⟨w.heap.size, 0, none⟩) (by rw [World.cell?, alloc_heap_new]; rfl))⟩
theorem way_made (k : Nat) (w : World) : Calls Tryz.prog 41 #[.func (.func k) #[] #[]] w (Made 59 61 k w) :=
  (way_any k w).mono fun e w' ⟨he, hw⟩ => ⟨he, by subst hw; exact ((Fr.refl _ _).alloc _).alloc _, by
    subst hw
    exact (((Fr.refl [] _).alloc _).cell0 (p := ⟨w.heap.size, 0, none⟩) (by rw [World.cell?, alloc_heap_new]; rfl))⟩

def pe (c : Int) (rd sh b i : Nat) : MapEntry := { key := .int .u8 c, val := .agg #[clo rd b, clo sh b], born := i }
def pf (c : Int) (rd sh i : Nat) : MapEntry := { key := .int .u8 c, val := .agg #[fnv rd, fnv sh], born := i }
def partEs (b1 b2 b3 b4 b5 b6 : Nat) : Array MapEntry :=
  #[pe 116 55 57 b1 0, pe 109 55 57 b2 1, pe 97 55 57 b3 2, pe 110 55 57 b4 3, pe 112 59 61 b5 4, pe 113 59 61 b6 5, pf 98 44 46 6, pf 107 49 51 7]

/-- A map of parts in a world. -/
def PartsAt (w : World) (r base : Nat) : Prop := ∃ b1 b2 b3 b4 b5 b6, (base ≤ b1 ∧ base ≤ b2 ∧ base ≤ b3 ∧ base ≤ b4 ∧ base ≤ b5 ∧ base ≤ b6) ∧ w.heap[r]? = some (.map (partEs b1 b2 b3 b4 b5 b6) 8) ∧
  w.cell? ⟨b1, 0, none⟩ = some (fnv 37) ∧ w.cell? ⟨b2, 0, none⟩ = some (fnv 38) ∧ w.cell? ⟨b3, 0, none⟩ = some (fnv 39) ∧
  w.cell? ⟨b4, 0, none⟩ = some (fnv 40) ∧ w.cell? ⟨b5, 0, none⟩ = some (fnv 42) ∧ w.cell? ⟨b6, 0, none⟩ = some (fnv 43)

theorem putObj_frame {w : World} {r : Nat} {o o' : Obj} (h : w.heap[r]? = some o) : Fr [r] w (w.putObj r o') ∧ (w.putObj r o').heap[r]? = some o' := by
  have hr := (Array.getElem?_eq_some_iff.1 h).1
  refine ⟨⟨rfl, rfl, rfl, by simp [World.putObj], fun k hk hn => ?_⟩, ?_⟩
  · simp only [World.putObj, Array.getElem?_setIfInBounds]; rw [if_neg (by simpa using Ne.symm (by simpa using hn : ¬ k = r))]
  · simp [World.putObj, hr]

def SomeParts (w : World) (e : Ending) (w' : World) : Prop := e = .returned (.map (some w.heap.size)) ∧ PartsAt w' w.heap.size w.heap.size ∧ Fr [] w w'

/-- One step: what a maker leaves, and the store into the map behind it. -/
theorem put_step {w w1 w2 : World} {e : Ending} {r : Nat} {es : Array MapEntry} {n : Nat} (c : Int) (rd sh k : Nat) (hr : w.heap.size ≤ r) (hf : Fr [] w w1) (hm : w1.heap[r]? = some (.map es n)) (hk : Made rd sh k w1 e w2)
    (hfind : Instr.findNow (.int .u8) (.int .u8 c) es.toList 0 = some none) :
    ∃ w3, (Instr.mapUpdate 64 (.map (some r)) (.int .u8 c) (.agg #[.func (.func rd) #[] #[.pointer (some ⟨w1.heap.size, 0, none⟩)], .func (.func sh) #[] #[.pointer (some ⟨w1.heap.size, 0, none⟩)]])).run Tryz.prog w2 = .ok () w3 ∧
    Fr [] w w3 ∧ w3.heap[r]? = some (.map (es.push (pe c rd sh w1.heap.size n)) (n + 1)) ∧ w3.cell? ⟨w1.heap.size, 0, none⟩ = some (fnv k) ∧ Fr [r] w1 w3 := by
  obtain ⟨-, h1, h2⟩ := hk
  have hm2 := h1.heap hm (by simp)
  have hlt := (Array.getElem?_eq_some_iff.1 hm).1
  refine ⟨_, run_insert_new _ _ Tryz.underlying64 Tryz.underlying5 (by simp [MapKept.IsKey]) hm2 hfind, ?_, (putObj_frame hm2).2, ?_, ?_⟩
  · exact (hf.then0 h1).then (putObj_frame hm2).1 (fun x hx => by simp at hx; subst hx; exact .inr hr)
  · exact (putObj_frame hm2).1.cell h2 (by simp; omega)
  · exact (h1.nil (S := [r])).trans (putObj_frame hm2).1

theorem put_plain {w w2 : World} {r : Nat} {es : Array MapEntry} {n : Nat} (c : Int) (rd sh : Nat) (hr : w.heap.size ≤ r) (hf : Fr [] w w2) (hm : w2.heap[r]? = some (.map es n))
    (hfind : Instr.findNow (.int .u8) (.int .u8 c) es.toList 0 = some none) :
    ∃ w3, (Instr.mapUpdate 64 (.map (some r)) (.int .u8 c) (.agg #[.func (.func rd) #[] #[], .func (.func sh) #[] #[]])).run Tryz.prog w2 = .ok () w3 ∧
    Fr [] w w3 ∧ w3.heap[r]? = some (.map (es.push (pf c rd sh n)) (n + 1)) ∧ Fr [r] w2 w3 :=
  ⟨_, run_insert_new _ _ Tryz.underlying64 Tryz.underlying5 (by simp [MapKept.IsKey]) hm hfind,
    hf.then (putObj_frame hm).1 (fun x hx => by simp at hx; subst hx; exact .inr hr), (putObj_frame hm).2, (putObj_frame hm).1⟩

theorem made_map (w : World) : ∃ w0, (Instr.makeMap 64 none).run Tryz.prog w = .ok (.map (some w.heap.size)) w0 ∧ Fr [] w w0 ∧ w0.heap[w.heap.size]? = some (.map #[] 0) :=
  ⟨_, run_makeMap_plain _ _, (Fr.refl _ _).alloc _, alloc_heap_new _ _⟩

set_option maxRecDepth 100000 in
set_option maxHeartbeats 2000000 in
theorem parts_any (w : World) : Calls Tryz.prog 26 #[] w (SomeParts w) := by
  obtain ⟨W0, r0, F0, M0⟩ := made_map w
  have f0 := Lib.hid F0; have m0 := Lib.hid M0; clear F0 M0
  go_enter Tryz.func26, Tryz.ntmps26
  go_wp2_with fail
  refine (num_made 37 _).mono ?_
  intro e0 w0 hk0
  obtain ⟨W1, r1, F1, M1, C0, G0⟩ := put_step 116 55 57 37 (Nat.le_refl _) f0.out m0.out hk0 rfl
  obtain ⟨rfl, -⟩ := hk0
  have f1 := Lib.hid F1; have m1 := Lib.hid M1; have c0 := Lib.hid C0; have g0 := Lib.hid G0; clear F1 M1 C0 G0
  go_wp2_with fail
  refine (num_made 38 _).mono ?_
  intro e1 w1 hk1
  obtain ⟨W2, r2, F2, M2, C1, G1⟩ := put_step 109 55 57 38 (Nat.le_refl _) f1.out m1.out hk1 rfl
  obtain ⟨rfl, -⟩ := hk1
  have f2 := Lib.hid F2; have m2 := Lib.hid M2; have c1 := Lib.hid C1; have g1 := Lib.hid G1; clear F2 M2 C1 G1
  go_wp2_with fail
  refine (num_made 39 _).mono ?_
  intro e2 w2 hk2
  obtain ⟨W3, r3, F3, M3, C2, G2⟩ := put_step 97 55 57 39 (Nat.le_refl _) f2.out m2.out hk2 rfl
  obtain ⟨rfl, -⟩ := hk2
  have f3 := Lib.hid F3; have m3 := Lib.hid M3; have c2 := Lib.hid C2; have g2 := Lib.hid G2; clear F3 M3 C2 G2
  go_wp2_with fail
  refine (num_made 40 _).mono ?_
  intro e3 w3 hk3
  obtain ⟨W4, r4, F4, M4, C3, G3⟩ := put_step 110 55 57 40 (Nat.le_refl _) f3.out m3.out hk3 rfl
  obtain ⟨rfl, -⟩ := hk3
  have f4 := Lib.hid F4; have m4 := Lib.hid M4; have c3 := Lib.hid C3; have g3 := Lib.hid G3; clear F4 M4 C3 G3
  go_wp2_with fail
  refine (way_made 42 _).mono ?_
  intro e4 w4 hk4
  obtain ⟨W5, r5, F5, M5, C4, G4⟩ := put_step 112 59 61 42 (Nat.le_refl _) f4.out m4.out hk4 rfl
  obtain ⟨rfl, -⟩ := hk4
  have f5 := Lib.hid F5; have m5 := Lib.hid M5; have c4 := Lib.hid C4; have g4 := Lib.hid G4; clear F5 M5 C4 G4
  go_wp2_with fail
  refine (way_made 43 _).mono ?_
  intro e5 w5 hk5
  obtain ⟨W6, r6, F6, M6, C5, G5⟩ := put_step 113 59 61 43 (Nat.le_refl _) f5.out m5.out hk5 rfl
  obtain ⟨rfl, -⟩ := hk5
  have f6 := Lib.hid F6; have m6 := Lib.hid M6; have c5 := Lib.hid C5; have g5 := Lib.hid G5; clear F6 M6 C5 G5
  obtain ⟨W7, r7, F7, M7, G6⟩ := put_plain 98 44 46 (Nat.le_refl _) f6.out m6.out rfl
  obtain ⟨W8, r8, F8, M8, G7⟩ := put_plain 107 49 51 (Nat.le_refl _) F7 M7 rfl
  have f8 := Lib.hid F8; have m8 := Lib.hid M8; have g6 := Lib.hid G6; have g7 := Lib.hid G7; clear F7 M7 F8 M8 G6 G7
  go_wp2_with fail
  go_ret
  refine ⟨rfl, ⟨W0.heap.size, W1.heap.size, W2.heap.size, W3.heap.size, W4.heap.size, W5.heap.size, ⟨f0.out.size, f1.out.size, f2.out.size, f3.out.size, f4.out.size, f5.out.size⟩, m8.out, ?_⟩, f8.out⟩
  have ge : ∀ {W : World} {o : Obj}, W.heap[w.heap.size]? = some o → W.heap.size ≠ w.heap.size := fun h => by have := (Array.getElem?_eq_some_iff.1 h).1; omega
  have n0 := ge m0.out; have n1 := ge m1.out; have n2 := ge m2.out; have n3 := ge m3.out; have n4 := ge m4.out; have n5 := ge m5.out
  have t7 := g6.out.trans g7.out
  have t5 := g5.out.trans t7; have t4 := g4.out.trans t5; have t3 := g3.out.trans t4; have t2 := g2.out.trans t3; have t1 := g1.out.trans t2
  exact ⟨t1.cell c0.out (by simpa using n0), t2.cell c1.out (by simpa using n1), t3.cell c2.out (by simpa using n2), t4.cell c3.out (by simpa using n3), t5.cell c4.out (by simpa using n4), t7.cell c5.out (by simpa using n5)⟩
end Go.Proofs.YtnldlakcopbpcaaGreatDoor
