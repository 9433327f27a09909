/- Contract: the reading of marks. -/
import Derived.Test.YtnldlakcopbpcaaGreatDoorBytes
namespace Go.Proofs.YtnldlakcopbpcaaGreatDoor
open Go.RowKit Go.Lib

theorem run_next_str {P : Program} {w : World} {k : Nat} {s : ByteArray} {pos : Nat} (ty : TypeId) (hk : w.heap[k]? = some (.stringIter s pos)) (h : pos < s.size) (ha : (s[pos]'h).toNat < 128) :
    (Instr.next (.pointer (some ⟨k, 0, none⟩)) true ty).run P w = .ok (.tuple #[.bool true, .int .i64 pos, .int .i32 (s[pos]'h).toNat]) (w.putObj k (.stringIter s (pos + 1))) := by
  simp only [Instr.next, getObj, setObj, Sem.run_bind, Sem.run, hk, Result.andThen, h, if_true, decode_ascii s pos h ha]
  simp [goInt, World.putObj]
theorem run_next_str_end {P : Program} {w : World} {k : Nat} {s : ByteArray} {pos : Nat} (ty : TypeId) (hk : w.heap[k]? = some (.stringIter s pos)) (h : ¬ pos < s.size) :
    (Instr.next (.pointer (some ⟨k, 0, none⟩)) true ty).run P w = .ok (.tuple #[.bool false]) w := by
  simp [Instr.next, getObj, Sem.run, hk, h]

def markB (c : UInt8) : Bool := c == 49
def marksOk (s : ByteArray) : Prop := 1 ≤ s.size ∧ s.size ≤ 60 ∧ Lib.trimS s.data.toList [48, 49] = []
instance (s : ByteArray) : Decidable (marksOk s) := by unfold marksOk; infer_instance
def marksS (s : ByteArray) : Option (List Bool) :=
  if s.data.toList = [45] then some [] else if marksOk s then some (s.data.toList.map markB) else none

theorem trim_all {l : List UInt8} (h : Lib.trimS l [48, 49] = []) : ∀ c ∈ l, c = 48 ∨ c = 49 := by
  have dw : ∀ (m : List UInt8), m.dropWhile (([48, 49] : List UInt8).contains ·) = [] → ∀ c ∈ m, c = 48 ∨ c = 49 := by
    intro m
    induction m with
    | nil => intro _ c hc; cases hc
    | cons b m ih =>
      intro hm c hc
      by_cases hb : ([48, 49] : List UInt8).contains b = true
      · rw [List.dropWhile_cons_of_pos hb] at hm
        rcases List.mem_cons.1 hc with rfl | hc
        · simpa using hb
        · exact ih hm c hc
      · rw [List.dropWhile_cons_of_neg hb] at hm; cases hm
  unfold Lib.trimS Lib.trimLeftS at h
  have h1 := dw _ h
  unfold Lib.trimRightS at h1
  have h2 : ∀ (m : List UInt8), (∀ c ∈ m.dropWhile (([48, 49] : List UInt8).contains ·), c = 48 ∨ c = 49) → ∀ c ∈ m, c = 48 ∨ c = 49 := by
    intro m
    induction m with
    | nil => intro _ c hc; cases hc
    | cons b m ih =>
      intro hm c hc
      by_cases hb : ([48, 49] : List UInt8).contains b = true
      · rw [List.dropWhile_cons_of_pos hb] at hm
        rcases List.mem_cons.1 hc with rfl | hc
        · simpa using hb
        · exact ih hm c hc
      · rw [List.dropWhile_cons_of_neg hb] at hm; exact hm c hc
  intro c hc
  exact h2 l.reverse (fun c hc => h1 c (by simpa using hc)) c (by simpa using hc)

def MarksPost (s : ByteArray) (w : World) (e : Ending) (w' : World) : Prop :=
  (∃ l v, marksS s = some l ∧ e = .returned v ∧ w'.ownsRow w.heap.size 4 1 v l.length (l.map Value.bool) ∧ Fr [] w w') ∨
  (marksS s = none ∧ Panic380 e ∧ Fr [] w w')

theorem trim01 (s : ByteArray) (w : World) (hs : s.size ≤ 1000000) :
    Calls Tryz.prog 66 #[.string s, .string ⟨#[48, 49]⟩] w fun e w' => e = .returned (.string ⟨(Lib.trimS s.data.toList [48, 49]).toArray⟩) ∧ Fr [] w w' :=
  (Any.strings_Trim_laid Tryz.lays160 (by kernel_rfl) s ⟨#[48, 49]⟩ w (by omega) (by decide) (ascii_of_all (by decide))).mono fun _ _ ⟨h1, h2⟩ => ⟨h1, Fr.of_below h2⟩

theorem trim01' (s : ByteArray) (tr : List UInt8) (w : World) (hs : s.size ≤ 1000000) (ht : Lib.trimS s.data.toList [48, 49] = tr) :
    Calls Tryz.prog 66 #[.string s, .string ⟨#[48, 49]⟩] w fun e w' => e = .returned (.string ⟨tr.toArray⟩) ∧ Fr [] w w' := ht ▸ trim01 s w hs

theorem Tryz.info4 : (Tryz.prog.info? 4).map (fun i => (i.zero, i.size, i.bytes)) = some (some (.bool false), 1, 1) := by kernel_rfl

def MRel (s : ByteArray) (w : World) (ib : Nat) (v : Value) (wr : World) : Prop :=
  ∃ (pos : Nat), pos ≤ s.size ∧ Hid (wr.heap[ib]? = some (.stringIter s pos)) ∧ Hid (wr.ownsRow w.heap.size 4 1 v pos ((s.data.toList.take pos).map fun c => Value.bool (markB c))) ∧ Hid (Fr [] w wr)

set_option maxRecDepth 100000 in
set_option maxHeartbeats 2000000 in
theorem marks_loop (s : ByteArray) (w : World) (hok : marksOk s) (hd : ¬ s.data.toList = [45]) : Calls Tryz.prog 50 #[.string s] w (MarksPost s w) := by
  obtain ⟨h1, h60, ht⟩ := hok
  have e0 : (s.toList == [45]) = false := by rw [Lib.toList_data]; simpa using hd
  have e1 : decide ((1 : Int) ≤ (s.size : Int)) = true := decide_eq_true (by omega)
  have e2 : decide ((s.size : Int) ≤ 60) = true := decide_eq_true (by omega)
  have hall := trim_all ht
  have HD := Lib.hid hd; have HT := Lib.hid ht; have HA := Lib.hid hall; clear hd ht hall
  obtain ⟨i0, hi, hz0, hz1, hz2⟩ := info_parts Tryz.info4
  go_enter Tryz.func50, Tryz.ntmps50
  go_wp2_with fail
  refine (trim01 s _ (by omega)).mono ?_
  rintro e w1 ⟨rfl, hf1⟩
  have HF1 := Lib.hid hf1; clear hf1
  rw [HT.out]
  go_wp2_with fail
  refine (must_ok 380 _).mono ?_
  rintro e w2 ⟨rfl, rfl⟩
  go_wp2_with fail
  have hsz : w.heap.size ≤ w1.heap.size := HF1.out.size
  go_loopw [2] (fun v wr => MRel s w w1.heap.size v wr) (fun _ wr => s.size - wr.iterPos w1.heap.size)
  case atStart => exact ⟨0, by omega, Lib.hid (World.iter_heap _ _ _), Lib.hid ⟨rfl, .inl ⟨rfl, rfl⟩⟩, Lib.hid (HF1.out.alloc _)⟩
  case round =>
    obtain ⟨pos, hp, hit, hown, hfr⟩ := hrel
    by_cases hlt : pos < s.size
    · have hc : s[pos] = 48 ∨ s[pos] = 49 := HA.out _ (by exact List.getElem_mem (l := s.data.toList) (by simpa using hlt))
      have ha : (s[pos]).toNat < 128 := by rcases hc with h | h <;> rw [h] <;> decide
      have hnx : ∀ ty, (Instr.next (.pointer (some ⟨w1.heap.size, 0, none⟩)) true ty).run Tryz.prog wr = _ := fun ty => run_next_str ty hit.out hlt ha
      obtain ⟨f2, g2⟩ := putObj_frame' (o' := .stringIter s (pos + 1)) hit.out
      generalize wr.putObj w1.heap.size (.stringIter s (pos + 1)) = w3 at hnx f2 g2
      have own3 := ownsRow_fr hown.out f2 (fun g c t fr _ hg hm => by simp at hm; subst hm; rw [hit.out] at hg; cases hg)
      have fr3 : Fr [] w w3 := hfr.out.then f2 (fun x hx => by simp at hx; subst hx; exact .inr hsz)
      have hneq : ∀ q, u2.ownBlock = some q → q ≠ w1.heap.size := fun q hq e => by
        rcases hown.out.2 with ⟨rfl, _⟩ | ⟨g, cap, cur, rfl, _, hh, _⟩
        · simp [Value.ownBlock] at hq
        · simp [Value.ownBlock] at hq; subst hq; rw [e, hit.out] at hh; cases hh
      have hlt3 : w1.heap.size < w3.heap.size := (Array.getElem?_eq_some_iff.1 g2).1
      have hw3 : w.heap.size ≤ w3.heap.size := fr3.size
      have HM : Hid (((s[pos].toNat : Int) == 49) = markB s[pos]) := Lib.hid (by unfold markB; rcases hc with h | h <;> rw [h] <;> decide)
      have hm := HM.out
      have F2 := Lib.hid f2; have G2 := Lib.hid g2; have O3 := Lib.hid own3; have F3 := Lib.hid fr3; have NE := Lib.hid hneq; clear f2 g2 own3 fr3 hneq hc ha
      go_wp2_with (at_builtin; refine wpList_append_lies _ rfl (.tmp 26) (.tmp 29) 33 rfl w.heap.size 4 i0 (.bool false) 1 1 Tryz.underlying33 hi hz0 hz1 hz2 rfl (by decide) _ _ _ rfl (O3.out.alloc _) ⟨w3.heap.size, 0, none⟩ 1 1 [.bool (markB s[pos])] rfl rfl (World.news_of_block (alloc_heap_new w3 _)) (by simp [Value.oneCell']) (by decide) (by unfold maxLen; omega) (by omega) (by simp; omega) _ rfl ?_; intro g' cap' w5 hown5 hgrow5 hat5 hlt5)
      have HO5 := Lib.hid hown5
      have F5 : Hid (Fr [] w w5) := Lib.hid ((F3.out.alloc _).grown hgrow5 (fun q hq => .inr (own_block_ge hown.out hq)))
      have I5 : Hid (w5.heap[w1.heap.size]? = some (.stringIter s (pos + 1))) := Lib.hid (by
        rw [hgrow5.block _ (by simp; omega) (fun e => NE.out _ e.symm rfl)]
        rw [Below.heap_alloc _ _ _ hlt3]; exact G2.out)
      clear hown5 hgrow5 hat5 hlt5
      go_wp2_with fail
      go_roundw
      case rel =>
        refine ⟨pos + 1, by omega, I5, Lib.hid ?_, F5⟩
        have := HO5.out
        rw [List.take_succ_eq_append_getElem (by simpa using hlt), List.map_append]
        exact this
      case measure => rw [iterPos_of I5.out, iterPos_of hit.out]; omega
    · have hnx : ∀ ty, (Instr.next (.pointer (some ⟨w1.heap.size, 0, none⟩)) true ty).run Tryz.prog wr = _ := fun ty => run_next_str_end ty hit.out hlt
      go_wp2_with fail
      go_ret
      have hpe : pos = s.data.toList.length := by have : s.size = s.data.toList.length := Lib.size_eq s; omega
      have ho := hown.out
      rw [hpe, List.take_length] at ho
      exact .inl ⟨s.data.toList.map markB, u2, by simp [marksS, HD.out, marksOk, h1, h60, HT.out], rfl, by simpa [Function.comp_def] using ho, hfr.out⟩

set_option maxRecDepth 100000 in
set_option maxHeartbeats 1000000 in
theorem marks_any (s : ByteArray) (w : World) (hs : s.size ≤ 1000000) : Calls Tryz.prog 50 #[.string s] w (MarksPost s w) := by
  by_cases hd : s.data.toList = [45]
  · have e0 : (s.toList == [45]) = true := by rw [Lib.toList_data]; simpa using hd
    have HD := Lib.hid hd; clear hd
    go_enter Tryz.func50, Tryz.ntmps50
    go_wp2_with fail
    go_ret
    exact .inl ⟨[], _, by simp [marksS, HD.out], rfl, ⟨rfl, .inl ⟨rfl, rfl⟩⟩, Fr.refl _ _⟩
  · by_cases hok : marksOk s
    · exact marks_loop s w hok hd
    · have e0 : (s.toList == [45]) = false := by rw [Lib.toList_data]; simpa using hd
      have HN : Hid (marksS s = none) := Lib.hid (by simp [marksS, hd, hok])
      clear hd
      by_cases h1 : 1 ≤ s.size
      · have e1 : decide ((1 : Int) ≤ (s.size : Int)) = true := decide_eq_true (by omega)
        by_cases h60 : s.size ≤ 60
        · have e2 : decide ((s.size : Int) ≤ 60) = true := decide_eq_true (by omega)
          have ht : ¬ Lib.trimS s.data.toList [48, 49] = [] := fun ht => hok ⟨h1, h60, ht⟩
          have ht' : (Lib.trimS s.data.toList [48, 49] == []) = false := by simpa using ht
          have ht2 : (Lib.trimS s.data.toList [48, 49]).isEmpty = false := by simpa using ht
          clear hok
          generalize hT : Lib.trimS s.data.toList [48, 49] = tr at *
          have HT := Lib.hid hT; clear hT
          go_enter Tryz.func50, Tryz.ntmps50
          go_wp2_with fail
          refine (trim01' s tr _ (by omega) HT.out).mono ?_
          rintro e w1 ⟨rfl, hf1⟩
          have HF1 := Lib.hid hf1; clear hf1
          go_wp2_with fail
          refine (must_no 380 _).mono ?_
          rintro e w2 ⟨rfl, rfl⟩
          exact ⟨rfl, .inr ⟨HN.out, rfl, HF1.out⟩⟩
        · have e2 : decide ((s.size : Int) ≤ 60) = false := decide_eq_false (by omega)
          clear hok
          go_enter Tryz.func50, Tryz.ntmps50
          go_wp2_with fail
          refine (must_no 380 _).mono ?_
          rintro e w2 ⟨rfl, rfl⟩
          exact ⟨rfl, .inr ⟨HN.out, rfl, Fr.refl _ _⟩⟩
      · have e1 : decide ((1 : Int) ≤ (s.size : Int)) = false := decide_eq_false (by omega)
        clear hok
        go_enter Tryz.func50, Tryz.ntmps50
        go_wp2_with fail
        refine (must_no 380 _).mono ?_
        rintro e w2 ⟨rfl, rfl⟩
        exact ⟨rfl, .inr ⟨HN.out, rfl, Fr.refl _ _⟩⟩
end Go.Proofs.YtnldlakcopbpcaaGreatDoor
