/- Contract: the act of a line, or a panic. -/
import Derived.Test.YtnldlakcopbpcaaGreatDoorFill
import Derived.Test.YtnldlakcopbpcaaGreatDoorKind
import Derived.Deep.DeepCutAuto
import Derived.Deep.CutBlock
import Derived.Deep.DeepMust
import Derived.Lib.CutLaws
namespace Go.Proofs.YtnldlakcopbpcaaGreatDoor
open Go.RowKit Go.Lib

theorem pair_inj {a b c d : ByteArray} (h : (#[.string a, .string b] : Array Value) = #[.string c, .string d]) : a = c ∧ b = d := by
  have h' : ([.string a, .string b] : List Value) = [.string c, .string d] := congrArg Array.toList h
  injection h' with h1 h2
  injection h2 with h3 h4
  injection h1 with h5
  injection h3 with h6
  exact ⟨h5, h6⟩

theorem ent_inj {k k' : Int} {a b a' b' : ByteArray} {i i' : Nat} (h : ({ key := .int .i64 k, val := .agg #[.string a, .string b], born := i } : MapEntry) = { key := .int .i64 k', val := .agg #[.string a', .string b'], born := i' }) : k = k' ∧ a = a' ∧ b = b' := by
  injection h with h1 h2 h3
  injection h1 with _ h4
  injection h2 with h5
  exact ⟨h4, pair_inj h5⟩

def verbOf (s : ByteArray) : Option (Int × ByteArray) :=
  if s = ⟨#[113, 117, 101, 117, 101]⟩ then some (1, ⟨#[116]⟩)
  else if s = ⟨#[115, 116, 101, 112]⟩ then some (2, ⟨#[116, 109]⟩)
  else if s = ⟨#[101, 118, 105, 99, 116]⟩ then some (3, ⟨#[109]⟩)
  else if s = ⟨#[99, 114, 97, 115, 104]⟩ then some (4, ⟨#[107]⟩)
  else if s = ⟨#[114, 101, 99, 111, 118, 101, 114]⟩ then some (5, ⟨#[109]⟩)
  else none

def opOf (s : ByteArray) : Option (Int × ByteArray) :=
  if s = ⟨#[115, 116, 97, 116]⟩ then some (1, ⟨#[112]⟩)
  else if s = ⟨#[108, 105, 115, 116]⟩ then some (2, ⟨#[112]⟩)
  else if s = ⟨#[114, 101, 97, 100]⟩ then some (3, ⟨#[112, 97, 110]⟩)
  else if s = ⟨#[109, 97, 107, 101]⟩ then some (4, ⟨#[112]⟩)
  else if s = ⟨#[109, 107, 100, 105, 114]⟩ then some (5, ⟨#[112]⟩)
  else if s = ⟨#[117, 110, 108, 105, 110, 107]⟩ then some (6, ⟨#[112]⟩)
  else if s = ⟨#[114, 109, 100, 105, 114]⟩ then some (7, ⟨#[112]⟩)
  else if s = ⟨#[114, 101, 110, 97, 109, 101]⟩ then some (8, ⟨#[112, 113]⟩)
  else if s = ⟨#[108, 105, 110, 107]⟩ then some (9, ⟨#[112, 113]⟩)
  else if s = ⟨#[119, 114, 105, 116, 101]⟩ then some (10, ⟨#[112, 97, 98]⟩)
  else if s = ⟨#[99, 117, 116]⟩ then some (11, ⟨#[112, 110]⟩)
  else none

theorem verbOf_post {s : ByteArray} {w : World} {e : Ending} {w' : World} (h : KindPost verbEs s w e w') :
    (∃ k b, verbOf s = some (k, b) ∧ e = .returned (.tuple #[.int .i64 k, .agg #[.string s, .string b]]) ∧ Fr [] w w') ∨ (verbOf s = none ∧ Panic380 e ∧ Fr [] w w') := by
  rcases h with ⟨k, b, i, hm, he, hf⟩ | ⟨hn, hp, hf⟩
  · refine .inl ⟨k, b, ?_, he, hf⟩
    rcases List.mem_cons.1 hm with h | hm
    · obtain ⟨rfl, rfl, rfl⟩ := ent_inj h; rfl
    rcases List.mem_cons.1 hm with h | hm
    · obtain ⟨rfl, rfl, rfl⟩ := ent_inj h; rfl
    rcases List.mem_cons.1 hm with h | hm
    · obtain ⟨rfl, rfl, rfl⟩ := ent_inj h; rfl
    rcases List.mem_cons.1 hm with h | hm
    · obtain ⟨rfl, rfl, rfl⟩ := ent_inj h; rfl
    rcases List.mem_cons.1 hm with h | hm
    · obtain ⟨rfl, rfl, rfl⟩ := ent_inj h; rfl
    cases hm
  · refine .inr ⟨?_, hp, hf⟩
    have n0 : ¬ s = ⟨#[113, 117, 101, 117, 101]⟩ := fun e => hn 1 ⟨#[116]⟩ 0 (by subst e; simp [verbEs])
    have n1 : ¬ s = ⟨#[115, 116, 101, 112]⟩ := fun e => hn 2 ⟨#[116, 109]⟩ 1 (by subst e; simp [verbEs])
    have n2 : ¬ s = ⟨#[101, 118, 105, 99, 116]⟩ := fun e => hn 3 ⟨#[109]⟩ 2 (by subst e; simp [verbEs])
    have n3 : ¬ s = ⟨#[99, 114, 97, 115, 104]⟩ := fun e => hn 4 ⟨#[107]⟩ 3 (by subst e; simp [verbEs])
    have n4 : ¬ s = ⟨#[114, 101, 99, 111, 118, 101, 114]⟩ := fun e => hn 5 ⟨#[109]⟩ 4 (by subst e; simp [verbEs])
    unfold verbOf
    rw [if_neg n0, if_neg n1, if_neg n2, if_neg n3, if_neg n4]
theorem verbOf_let {s : ByteArray} {k : Int} {b : ByteArray} (h : verbOf s = some (k, b)) : (∀ c ∈ b.data.toList, (c.toNat : Int) ∈ letters) ∧ b.size ≤ 1000 := by
  unfold verbOf at h
  by_cases h0 : s = ⟨#[113, 117, 101, 117, 101]⟩
  · rw [if_pos h0] at h; simp only [Option.some.injEq, Prod.mk.injEq] at h; obtain ⟨_, rfl⟩ := h; exact ⟨by decide, by decide⟩
  rw [if_neg h0] at h
  by_cases h1 : s = ⟨#[115, 116, 101, 112]⟩
  · rw [if_pos h1] at h; simp only [Option.some.injEq, Prod.mk.injEq] at h; obtain ⟨_, rfl⟩ := h; exact ⟨by decide, by decide⟩
  rw [if_neg h1] at h
  by_cases h2 : s = ⟨#[101, 118, 105, 99, 116]⟩
  · rw [if_pos h2] at h; simp only [Option.some.injEq, Prod.mk.injEq] at h; obtain ⟨_, rfl⟩ := h; exact ⟨by decide, by decide⟩
  rw [if_neg h2] at h
  by_cases h3 : s = ⟨#[99, 114, 97, 115, 104]⟩
  · rw [if_pos h3] at h; simp only [Option.some.injEq, Prod.mk.injEq] at h; obtain ⟨_, rfl⟩ := h; exact ⟨by decide, by decide⟩
  rw [if_neg h3] at h
  by_cases h4 : s = ⟨#[114, 101, 99, 111, 118, 101, 114]⟩
  · rw [if_pos h4] at h; simp only [Option.some.injEq, Prod.mk.injEq] at h; obtain ⟨_, rfl⟩ := h; exact ⟨by decide, by decide⟩
  rw [if_neg h4] at h
  cases h

theorem opOf_post {s : ByteArray} {w : World} {e : Ending} {w' : World} (h : KindPost opvEs s w e w') :
    (∃ k b, opOf s = some (k, b) ∧ e = .returned (.tuple #[.int .i64 k, .agg #[.string s, .string b]]) ∧ Fr [] w w') ∨ (opOf s = none ∧ Panic380 e ∧ Fr [] w w') := by
  rcases h with ⟨k, b, i, hm, he, hf⟩ | ⟨hn, hp, hf⟩
  · refine .inl ⟨k, b, ?_, he, hf⟩
    rcases List.mem_cons.1 hm with h | hm
    · obtain ⟨rfl, rfl, rfl⟩ := ent_inj h; rfl
    rcases List.mem_cons.1 hm with h | hm
    · obtain ⟨rfl, rfl, rfl⟩ := ent_inj h; rfl
    rcases List.mem_cons.1 hm with h | hm
    · obtain ⟨rfl, rfl, rfl⟩ := ent_inj h; rfl
    rcases List.mem_cons.1 hm with h | hm
    · obtain ⟨rfl, rfl, rfl⟩ := ent_inj h; rfl
    rcases List.mem_cons.1 hm with h | hm
    · obtain ⟨rfl, rfl, rfl⟩ := ent_inj h; rfl
    rcases List.mem_cons.1 hm with h | hm
    · obtain ⟨rfl, rfl, rfl⟩ := ent_inj h; rfl
    rcases List.mem_cons.1 hm with h | hm
    · obtain ⟨rfl, rfl, rfl⟩ := ent_inj h; rfl
    rcases List.mem_cons.1 hm with h | hm
    · obtain ⟨rfl, rfl, rfl⟩ := ent_inj h; rfl
    rcases List.mem_cons.1 hm with h | hm
    · obtain ⟨rfl, rfl, rfl⟩ := ent_inj h; rfl
    rcases List.mem_cons.1 hm with h | hm
    · obtain ⟨rfl, rfl, rfl⟩ := ent_inj h; rfl
    rcases List.mem_cons.1 hm with h | hm
    · obtain ⟨rfl, rfl, rfl⟩ := ent_inj h; rfl
    cases hm
  · refine .inr ⟨?_, hp, hf⟩
    have n0 : ¬ s = ⟨#[115, 116, 97, 116]⟩ := fun e => hn 1 ⟨#[112]⟩ 0 (by subst e; simp [opvEs])
    have n1 : ¬ s = ⟨#[108, 105, 115, 116]⟩ := fun e => hn 2 ⟨#[112]⟩ 1 (by subst e; simp [opvEs])
    have n2 : ¬ s = ⟨#[114, 101, 97, 100]⟩ := fun e => hn 3 ⟨#[112, 97, 110]⟩ 2 (by subst e; simp [opvEs])
    have n3 : ¬ s = ⟨#[109, 97, 107, 101]⟩ := fun e => hn 4 ⟨#[112]⟩ 3 (by subst e; simp [opvEs])
    have n4 : ¬ s = ⟨#[109, 107, 100, 105, 114]⟩ := fun e => hn 5 ⟨#[112]⟩ 4 (by subst e; simp [opvEs])
    have n5 : ¬ s = ⟨#[117, 110, 108, 105, 110, 107]⟩ := fun e => hn 6 ⟨#[112]⟩ 5 (by subst e; simp [opvEs])
    have n6 : ¬ s = ⟨#[114, 109, 100, 105, 114]⟩ := fun e => hn 7 ⟨#[112]⟩ 6 (by subst e; simp [opvEs])
    have n7 : ¬ s = ⟨#[114, 101, 110, 97, 109, 101]⟩ := fun e => hn 8 ⟨#[112, 113]⟩ 7 (by subst e; simp [opvEs])
    have n8 : ¬ s = ⟨#[108, 105, 110, 107]⟩ := fun e => hn 9 ⟨#[112, 113]⟩ 8 (by subst e; simp [opvEs])
    have n9 : ¬ s = ⟨#[119, 114, 105, 116, 101]⟩ := fun e => hn 10 ⟨#[112, 97, 98]⟩ 9 (by subst e; simp [opvEs])
    have n10 : ¬ s = ⟨#[99, 117, 116]⟩ := fun e => hn 11 ⟨#[112, 110]⟩ 10 (by subst e; simp [opvEs])
    unfold opOf
    rw [if_neg n0, if_neg n1, if_neg n2, if_neg n3, if_neg n4, if_neg n5, if_neg n6, if_neg n7, if_neg n8, if_neg n9, if_neg n10]
theorem opOf_let {s : ByteArray} {k : Int} {b : ByteArray} (h : opOf s = some (k, b)) : (∀ c ∈ b.data.toList, (c.toNat : Int) ∈ letters) ∧ b.size ≤ 1000 := by
  unfold opOf at h
  by_cases h0 : s = ⟨#[115, 116, 97, 116]⟩
  · rw [if_pos h0] at h; simp only [Option.some.injEq, Prod.mk.injEq] at h; obtain ⟨_, rfl⟩ := h; exact ⟨by decide, by decide⟩
  rw [if_neg h0] at h
  by_cases h1 : s = ⟨#[108, 105, 115, 116]⟩
  · rw [if_pos h1] at h; simp only [Option.some.injEq, Prod.mk.injEq] at h; obtain ⟨_, rfl⟩ := h; exact ⟨by decide, by decide⟩
  rw [if_neg h1] at h
  by_cases h2 : s = ⟨#[114, 101, 97, 100]⟩
  · rw [if_pos h2] at h; simp only [Option.some.injEq, Prod.mk.injEq] at h; obtain ⟨_, rfl⟩ := h; exact ⟨by decide, by decide⟩
  rw [if_neg h2] at h
  by_cases h3 : s = ⟨#[109, 97, 107, 101]⟩
  · rw [if_pos h3] at h; simp only [Option.some.injEq, Prod.mk.injEq] at h; obtain ⟨_, rfl⟩ := h; exact ⟨by decide, by decide⟩
  rw [if_neg h3] at h
  by_cases h4 : s = ⟨#[109, 107, 100, 105, 114]⟩
  · rw [if_pos h4] at h; simp only [Option.some.injEq, Prod.mk.injEq] at h; obtain ⟨_, rfl⟩ := h; exact ⟨by decide, by decide⟩
  rw [if_neg h4] at h
  by_cases h5 : s = ⟨#[117, 110, 108, 105, 110, 107]⟩
  · rw [if_pos h5] at h; simp only [Option.some.injEq, Prod.mk.injEq] at h; obtain ⟨_, rfl⟩ := h; exact ⟨by decide, by decide⟩
  rw [if_neg h5] at h
  by_cases h6 : s = ⟨#[114, 109, 100, 105, 114]⟩
  · rw [if_pos h6] at h; simp only [Option.some.injEq, Prod.mk.injEq] at h; obtain ⟨_, rfl⟩ := h; exact ⟨by decide, by decide⟩
  rw [if_neg h6] at h
  by_cases h7 : s = ⟨#[114, 101, 110, 97, 109, 101]⟩
  · rw [if_pos h7] at h; simp only [Option.some.injEq, Prod.mk.injEq] at h; obtain ⟨_, rfl⟩ := h; exact ⟨by decide, by decide⟩
  rw [if_neg h7] at h
  by_cases h8 : s = ⟨#[108, 105, 110, 107]⟩
  · rw [if_pos h8] at h; simp only [Option.some.injEq, Prod.mk.injEq] at h; obtain ⟨_, rfl⟩ := h; exact ⟨by decide, by decide⟩
  rw [if_neg h8] at h
  by_cases h9 : s = ⟨#[119, 114, 105, 116, 101]⟩
  · rw [if_pos h9] at h; simp only [Option.some.injEq, Prod.mk.injEq] at h; obtain ⟨_, rfl⟩ := h; exact ⟨by decide, by decide⟩
  rw [if_neg h9] at h
  by_cases h10 : s = ⟨#[99, 117, 116]⟩
  · rw [if_pos h10] at h; simp only [Option.some.injEq, Prod.mk.injEq] at h; obtain ⟨_, rfl⟩ := h; exact ⟨by decide, by decide⟩
  rw [if_neg h10] at h
  cases h

def splitS (line : ByteArray) : List ByteArray := Lib.splitB ⟨#[32]⟩ 0 (Lib.countB line ⟨#[32]⟩) line

def parse3 (a : ActD) : List ByteArray → Option ActD
  | [] => none
  | o :: ws3 => match opOf o with
    | none => none
    | some (x, needs) => match fillL needs.data.toList { a with opk := x } ws3 with
      | none => none
      | some (a2, ws4) => if ws4 = [] then some a2 else none
def parse2 (k : Int) (needs : ByteArray) (ws1 : List ByteArray) : Option ActD :=
  match fillL needs.data.toList { kind := k } ws1 with
  | none => none
  | some (a, ws2) => if k = 1 then parse3 a ws2 else if ws2 = [] then some a else none
def parse1 : List ByteArray → Option ActD
  | [] => none
  | v :: ws1 => match verbOf v with
    | none => none
    | some (k, needs) => parse2 k needs ws1
def parseS (line : ByteArray) : Option ActD := parse1 (splitS line)

def ParsedPost (line : ByteArray) (w : World) (e : Ending) (w' : World) : Prop :=
  (∃ a vb vm, parseS line = some a ∧ e = .returned (.agg (actCells a vb vm)) ∧ w'.ownsRow w.heap.size 5 1 vb a.bytes.length (a.bytes.map u8v) ∧ w'.ownsRow w.heap.size 4 1 vm a.marks.length (a.marks.map Value.bool) ∧ Fr [] w w') ∨
  (parseS line = none ∧ Panic380 e ∧ Fr [] w w')

theorem split_any {B : Nat} (s : ByteArray) (w : World) (hG : Gl B w) (hs : s.size ≤ 1000000) :
    Calls Tryz.prog 28 #[.string s, .string ⟨#[32]⟩] w fun e w' => e = .returned (.slice (some ⟨w.heap.size, 0, none⟩) (splitS s).length (splitS s).length) ∧ w.alloc (.cells ((splitS s).map Value.string).toArray 9) = w' := by
  obtain ⟨m, hm⟩ := hG.maxLen
  refine (Tryz.strings_Split s ⟨#[32]⟩ m w (by omega) hm (by decide)).mono fun e w' ⟨h1, h2⟩ => ⟨?_, h2.symm⟩
  rw [h1, splitS, Lib.splitB_all _ (by decide) _ _ _ rfl]

theorem Gl.up {B : Nat} {w : World} (h : Gl B w) : Gl w.heap.size w := ⟨Nat.le_trans h.low h.size, Nat.le_refl _, h.maxLen, h.tab, h.syn, h.rng⟩

theorem parsed_start (line : ByteArray) (w : World) :
    ActAt w.heap.size (((w.alloc (.cells #[.int .i64 0, .int .i64 0, .int .i64 0, .int .i64 0, .string ⟨#[]⟩, .string ⟨#[]⟩, .int .i64 0, .int .i64 0, .slice none 0 0, .slice none 0 0] 35)).alloc (.cells ((splitS line).map Value.string).toArray 9)).alloc (.cells #[.slice (some ⟨w.heap.size + 1, 0, none⟩) (splitS line).length (splitS line).length] 75)) w.heap.size {} ∧
    (line.size ≤ 1000000 → WordsAt (((w.alloc (.cells #[.int .i64 0, .int .i64 0, .int .i64 0, .int .i64 0, .string ⟨#[]⟩, .string ⟨#[]⟩, .int .i64 0, .int .i64 0, .slice none 0 0, .slice none 0 0] 35)).alloc (.cells ((splitS line).map Value.string).toArray 9)).alloc (.cells #[.slice (some ⟨w.heap.size + 1, 0, none⟩) (splitS line).length (splitS line).length] 75)) (w.heap.size + 1 + 1) (splitS line)) ∧
    Fr [] w (((w.alloc (.cells #[.int .i64 0, .int .i64 0, .int .i64 0, .int .i64 0, .string ⟨#[]⟩, .string ⟨#[]⟩, .int .i64 0, .int .i64 0, .slice none 0 0, .slice none 0 0] 35)).alloc (.cells ((splitS line).map Value.string).toArray 9)).alloc (.cells #[.slice (some ⟨w.heap.size + 1, 0, none⟩) (splitS line).length (splitS line).length] 75)) := by
  refine ⟨⟨.slice none 0 0, .slice none 0 0, ?_, ⟨rfl, .inl ⟨rfl, rfl⟩⟩, ⟨rfl, .inl ⟨rfl, rfl⟩⟩⟩, fun hs => ⟨some ⟨w.heap.size + 1, 0, none⟩, _, ?_, Nat.le_refl _, ?_, .inr ⟨w.heap.size + 1, 0, ((splitS line).map Value.string).toArray, (0, 0), rfl, ?_, fun i s h => ?_⟩⟩, (((Fr.refl [] w).alloc _).alloc _).alloc _⟩
  · rw [Below.heap_alloc _ _ _ (by simp; omega), Below.heap_alloc _ _ _ (by simp)]; exact alloc_heap_new _ _
  · have := alloc_heap_new ((w.alloc (.cells #[.int .i64 0, .int .i64 0, .int .i64 0, .int .i64 0, .string ⟨#[]⟩, .string ⟨#[]⟩, .int .i64 0, .int .i64 0, .slice none 0 0, .slice none 0 0] 35)).alloc (.cells ((splitS line).map Value.string).toArray 9)) (.cells #[.slice (some ⟨w.heap.size + 1, 0, none⟩) (splitS line).length (splitS line).length] 75)
    simpa using this
  · have h1 := Lib.countB_le ⟨#[32]⟩ (by decide) line.size line (Nat.le_refl _)
    have h2 : (splitS line).length = Lib.countB line ⟨#[32]⟩ + 1 := Lib.splitB_all _ (by decide) _ _ _ rfl
    omega
  · have := alloc_heap_new (w.alloc (.cells #[.int .i64 0, .int .i64 0, .int .i64 0, .int .i64 0, .string ⟨#[]⟩, .string ⟨#[]⟩, .int .i64 0, .int .i64 0, .slice none 0 0, .slice none 0 0] 35)) (.cells ((splitS line).map Value.string).toArray 9)
    rw [World.size_alloc] at this
    rw [Below.heap_alloc _ _ _ (by simp)]
    exact this
  · simp [h]

def emptyBox : Obj := .cells #[.string ⟨#[]⟩, .string ⟨#[]⟩] 58
theorem box_facts {w : World} {q : Nat} (h : w.heap[q]? = some emptyBox) : w.cell? ⟨q, 0, none⟩ = some (.string ⟨#[]⟩) ∧ w.cell? ⟨q, 1, none⟩ = some (.string ⟨#[]⟩) ∧ w.frozen? ⟨q, 0, none⟩ = false ∧ w.frozen? ⟨q, 1, none⟩ = false :=
  ⟨cell_of_row w q 0 _ _ _ h, cell_of_row w q 1 _ _ _ h, by unfold World.frozen?; rw [h]; simp [emptyBox], by unfold World.frozen?; rw [h]; simp [emptyBox]⟩
theorem heap_later {w : World} {k : Nat} {x o : Obj} (h : w.heap[k]? = some x) : (w.alloc o).heap[k]? = some x := ((Fr.refl [] _).alloc _).heap h (by simp)
theorem box0 (w : World) : (w.alloc (.cells #[.string ⟨#[]⟩, .string ⟨#[]⟩] 58)).heap[w.heap.size]? = some emptyBox := alloc_heap_new _ _
theorem boxA (w : World) (o : Obj) : ((w.alloc (.cells #[.string ⟨#[]⟩, .string ⟨#[]⟩] 58)).alloc o).drew.heap[w.heap.size]? = some emptyBox := heap_later (box0 w)
theorem boxB (w : World) (o : Obj) : ((w.alloc o).alloc (.cells #[.string ⟨#[]⟩, .string ⟨#[]⟩] 58)).drew.heap[w.heap.size + 1]? = some emptyBox := by
  have := box0 (w.alloc o); rwa [World.size_alloc] at this
theorem mapA (w : World) (o : Obj) : (w.alloc o).drew.heap[w.heap.size]? = some o := alloc_heap_new _ _
theorem mapB (w : World) (o : Obj) : ((w.alloc o).alloc (.cells #[.string ⟨#[]⟩, .string ⟨#[]⟩] 58)).drew.heap[w.heap.size]? = some o := heap_later (alloc_heap_new _ _)
theorem mapC (w : World) (o : Obj) : ((w.alloc (.cells #[.string ⟨#[]⟩, .string ⟨#[]⟩] 58)).alloc o).drew.heap[w.heap.size + 1]? = some o := by
  have := alloc_heap_new (w.alloc (.cells #[.string ⟨#[]⟩, .string ⟨#[]⟩] 58)) o; rwa [World.size_alloc] at this

def PCut (f : ByteArray → Option (Int × ByteArray)) (ws : List ByteArray) (a0 : ActD) (w : World) (b rb : Nat) (s4 s5 : Value) (wx : World) : Prop :=
  ∃ (v : ByteArray) (rest : List ByteArray) (k : Int) (needs : ByteArray) (bv : Nat), Hid (ws = v :: rest) ∧ Hid (f v = some (k, needs)) ∧ s4 = .int .i64 k ∧ s5 = .pointer (some ⟨bv, 0, none⟩) ∧
    Hid (wx.heap[bv]? = some (.cells #[.string v, .string needs] 58)) ∧ Hid (ActAt w.heap.size wx b a0) ∧ Hid (WordsAt wx rb rest) ∧ Hid (Fr [] w wx)

theorem ActAt.fr_box {w w' : World} {q : Nat} {B b : Nat} {a : ActD} (hA : ActAt B w b a) (f : Fr [q] w w') {cs : Array Value} {t : TypeId} (h : w.heap[q]? = some (.cells cs t)) (h3 : t ≠ 35) (h5 : t ≠ 5) (h4 : t ≠ 4) : ActAt B w' b a := by
  obtain ⟨vb, vm, hb, h2, h3'⟩ := hA
  refine ⟨vb, vm, f.heap hb (fun hm => ?_), ownsRow_fr h2 f (own_ne h2 h h5), ownsRow_fr h3' f (own_ne h3' h h4)⟩
  simp only [List.mem_singleton] at hm; subst hm; rw [h] at hb; simp at hb; exact h3 hb.2
theorem WordsAt.fr_box {w w' : World} {q rb : Nat} {l : List ByteArray} (hW : WordsAt w rb l) (f : Fr [q] w w') {cs : Array Value} {t : TypeId} (h : w.heap[q]? = some (.cells cs t)) (h7 : t ≠ 75) (h9 : t ≠ 9) : WordsAt w' rb l := by
  have hr := hW
  obtain ⟨ao, cap, h1, _⟩ := hr
  refine hW.fr f (fun hm => ?_) (fun x hx cs' fr e => ?_)
  · simp only [List.mem_singleton] at hm; subst hm; rw [h] at h1; simp at h1; exact h7 h1.2
  · simp only [List.mem_singleton] at hx; subst hx; rw [h] at e; simp at e; exact h9 e.2.1

theorem pcut_set {f : ByteArray → Option (Int × ByteArray)} {ws rest : List ByteArray} {a0 : ActD} {w w3 : World} {b rb q : Nat} {v needs : ByteArray} {k : Int} (hs : ws = v :: rest) (hv : f v = some (k, needs)) (hb : w3.heap[q]? = some emptyBox) (hA : ActAt w.heap.size w3 b a0) (hW : WordsAt w3 rb rest) (hF : Fr [] w w3) (hq : w.heap.size ≤ q) :
    PCut f ws a0 w b rb (.int .i64 k) (.pointer (some ⟨q, 0, none⟩)) ((w3.setCell ⟨q, 0, none⟩ (.string v)).setCell ⟨q, 1, none⟩ (.string needs)) := by
  have f : Fr [q] w3 ((w3.setCell ⟨q, 0, none⟩ (.string v)).setCell ⟨q, 1, none⟩ (.string needs)) := ((Fr.refl _ _).setCell _ _ (.inl (by simp))).setCell _ _ (.inl (by simp))
  have h1 := heap_setCell_same (j := 0) hb (.string v)
  have h2 := heap_setCell_same (j := 1) h1 (.string needs)
  exact ⟨v, rest, k, needs, q, Lib.hid hs, Lib.hid hv, rfl, rfl, Lib.hid h2, Lib.hid (hA.fr_box f hb (by decide) (by decide) (by decide)), Lib.hid (hW.fr_box f hb (by decide) (by decide)),
    Lib.hid (hF.then f (fun x hx => by simp only [List.mem_singleton] at hx; subst hx; exact .inr hq))⟩
theorem pcut_new {f : ByteArray → Option (Int × ByteArray)} {ws rest : List ByteArray} {a0 : ActD} {w w3 : World} {b rb : Nat} {v needs : ByteArray} {k : Int} (hs : ws = v :: rest) (hv : f v = some (k, needs)) (hA : ActAt w.heap.size w3 b a0) (hW : WordsAt w3 rb rest) (hF : Fr [] w w3) :
    PCut f ws a0 w b rb (.int .i64 k) (.pointer (some ⟨w3.heap.size, 0, none⟩)) (w3.alloc (.cells #[.string v, .string needs] 58)) := by
  have f : Fr [] w3 (w3.alloc (.cells #[.string v, .string needs] 58)) := (Fr.refl _ _).alloc _
  have h2 := alloc_heap_new w3 (.cells #[.string v, .string needs] 58)
  exact ⟨v, rest, k, needs, _, Lib.hid hs, Lib.hid hv, rfl, rfl, Lib.hid h2, Lib.hid (hA.fr0 f), Lib.hid (hW.fr0 f), Lib.hid (hF.trans f)⟩

/-- The kind goes into the act. -/
theorem pcut_store {w wx : World} {b rb bv j : Nat} {a0 a1 : ActD} {rest : List ByteArray} {v needs : ByteArray} {k : Int} (hb : wx.heap[bv]? = some (.cells #[.string v, .string needs] 58)) (hA : ActAt w.heap.size wx b a0) (hW : WordsAt wx rb rest) (hF : Fr [] w wx) (hbw : w.heap.size ≤ b)
    (hset : ∀ vb vm, (actCells a0 vb vm).setIfInBounds j (.int .i64 k) = actCells a1 vb vm ∧ a1.bytes = a0.bytes ∧ a1.marks = a0.marks) :
    (wx.setCell ⟨b, j, none⟩ (.int .i64 k)).cell? ⟨bv, 0, none⟩ = some (.string v) ∧ (wx.setCell ⟨b, j, none⟩ (.int .i64 k)).cell? ⟨bv, 1, none⟩ = some (.string needs) ∧
    ActAt w.heap.size (wx.setCell ⟨b, j, none⟩ (.int .i64 k)) b a1 ∧ WordsAt (wx.setCell ⟨b, j, none⟩ (.int .i64 k)) rb rest ∧ Fr [] w (wx.setCell ⟨b, j, none⟩ (.int .i64 k)) := by
  have f : Fr [b] wx (wx.setCell ⟨b, j, none⟩ (.int .i64 k)) := (Fr.refl _ _).setCell _ _ (.inl (by simp))
  have hn : bv ∉ [b] := by
    intro hm
    simp only [List.mem_singleton] at hm
    subst hm
    obtain ⟨_, _, h1, _⟩ := hA
    rw [hb] at h1; simp at h1
  refine ⟨cell_of_row _ bv 0 _ _ _ (f.heap hb hn), cell_of_row _ bv 1 _ _ _ (f.heap hb hn), hA.set j _ fun vb vm => ⟨vb, vm, (hset vb vm).1, ?_, ?_⟩, hW.fr_act f hA, hF.then f (fun x hx => by simp only [List.mem_singleton] at hx; subst hx; exact .inr hbw)⟩
  · rw [(hset vb vm).2.1]; exact id
  · rw [(hset vb vm).2.2]; exact id

theorem splitS_size {line s : ByteArray} (h : s ∈ splitS line) : s.size ≤ line.size := by
  have key : ∀ (k : Nat) (l : ByteArray), ∀ s ∈ Lib.splitB ⟨#[32]⟩ 0 k l, s.size ≤ l.size := by
    intro k
    induction k with
    | zero => intro l s hs; rw [Lib.splitB_zero] at hs; simp at hs; subst hs; exact Nat.le_refl _
    | succ k ih =>
      intro l s hs
      rcases Lib.indexB_cases l ⟨#[32]⟩ with h0 | ⟨i, hi, _⟩
      · rw [Lib.splitB_miss _ _ _ _ h0] at hs; simp at hs; subst hs; exact Nat.le_refl _
      · skip
        rw [Lib.splitB_hit _ _ _ _ i hi] at hs
        rcases List.mem_cons.1 hs with rfl | hs
        · simp; omega
        · have := ih _ _ hs
          simp at this; omega
  exact key _ _ _ h

theorem fillL_sub : ∀ {cs : List UInt8} {a : ActD} {ws : List ByteArray} {a' : ActD} {ws' : List ByteArray}, fillL cs a ws = some (a', ws') → ∀ {s : ByteArray}, s ∈ ws' → s ∈ ws
  | [], a, ws, a', ws', h, s, hs => by
    simp only [fillL, Option.some.injEq, Prod.mk.injEq] at h; rw [h.2]; exact hs
  | c :: cs, a, [], a', ws', h, s, hs => by simp [fillL] at h
  | c :: cs, a, w :: ws, a', ws', h, s, hs => by
    simp only [fillL] at h
    split at h
    · cases h
    · exact List.mem_cons_of_mem _ (fillL_sub h hs)

theorem act_cells {w : World} {b : Nat} {a : ActD} {vb vm : Value} (h : w.heap[b]? = some (.cells (actCells a vb vm) 35)) :
    w.cell? ⟨b, 0, none⟩ = some (.int .i64 a.kind) ∧ w.cell? ⟨b, 1, none⟩ = some (.int .i64 a.thread) ∧ w.cell? ⟨b, 2, none⟩ = some (.int .i64 a.n) ∧ w.cell? ⟨b, 3, none⟩ = some (.int .i64 a.opk) ∧ w.cell? ⟨b, 4, none⟩ = some (.string a.path) ∧
    w.cell? ⟨b, 5, none⟩ = some (.string a.dest) ∧ w.cell? ⟨b, 6, none⟩ = some (.int .i64 a.at_) ∧ w.cell? ⟨b, 7, none⟩ = some (.int .i64 a.opn) ∧ w.cell? ⟨b, 8, none⟩ = some vb ∧ w.cell? ⟨b, 9, none⟩ = some vm :=
  ⟨cell_of_row w b 0 _ _ _ h, cell_of_row w b 1 _ _ _ h, cell_of_row w b 2 _ _ _ h, cell_of_row w b 3 _ _ _ h, cell_of_row w b 4 _ _ _ h, cell_of_row w b 5 _ _ _ h, cell_of_row w b 6 _ _ _ h, cell_of_row w b 7 _ _ _ h, cell_of_row w b 8 _ _ _ h, cell_of_row w b 9 _ _ _ h⟩

theorem setCell_self {w : World} {b j : Nat} {v : Value} {cs : Array Value} {t : TypeId} {fr : Nat × Nat} (h : w.heap[b]? = some (.cells cs t fr)) (hv : cs[j]? = some v) : w.setCell ⟨b, j, none⟩ v = w := by
  have hb := (Array.getElem?_eq_some_iff.1 h).1
  have e : (w.setCell ⟨b, j, none⟩ v).heap = w.heap := by
    simp only [World.setCell]
    apply Array.ext_getElem?
    intro i
    rw [Array.getElem?_modify]
    by_cases hi : b = i
    · subst hi
      rw [if_pos rfl, h]
      simp only [Option.map_some, Option.some.injEq, Obj.cells.injEq, and_true]
      obtain ⟨hj, hc⟩ := Array.getElem?_eq_some_iff.1 hv
      apply Array.ext_getElem?
      intro q
      show (cs.setIfInBounds j v)[q]? = cs[q]?
      rw [Array.getElem?_setIfInBounds]
      by_cases hq : j = q
      · subst hq; simp [hj, hc]
      · simp [hq]
    · rw [if_neg hi]
  show ({ w with heap := (w.setCell ⟨b, j, none⟩ v).heap } : World) = w
  rw [e]

theorem act_same {w : World} {b : Nat} {a : ActD} {vb vm : Value} (h : w.heap[b]? = some (.cells (actCells a vb vm) 35)) :
    w.setCell ⟨b, 0, none⟩ (.int .i64 a.kind) = w ∧ w.setCell ⟨b, 1, none⟩ (.int .i64 a.thread) = w ∧ w.setCell ⟨b, 2, none⟩ (.int .i64 a.n) = w ∧ w.setCell ⟨b, 3, none⟩ (.int .i64 a.opk) = w ∧ w.setCell ⟨b, 4, none⟩ (.string a.path) = w ∧
    w.setCell ⟨b, 5, none⟩ (.string a.dest) = w ∧ w.setCell ⟨b, 6, none⟩ (.int .i64 a.at_) = w ∧ w.setCell ⟨b, 7, none⟩ (.int .i64 a.opn) = w ∧ w.setCell ⟨b, 8, none⟩ vb = w ∧ w.setCell ⟨b, 9, none⟩ vm = w :=
  ⟨setCell_self h rfl, setCell_self h rfl, setCell_self h rfl, setCell_self h rfl, setCell_self h rfl, setCell_self h rfl, setCell_self h rfl, setCell_self h rfl, setCell_self h rfl, setCell_self h rfl⟩

theorem act_frozen {w : World} {b : Nat} {a : ActD} {vb vm : Value} (h : w.heap[b]? = some (.cells (actCells a vb vm) 35)) :
    w.frozen? ⟨b, 0, none⟩ = false ∧ w.frozen? ⟨b, 1, none⟩ = false ∧ w.frozen? ⟨b, 2, none⟩ = false ∧ w.frozen? ⟨b, 3, none⟩ = false ∧ w.frozen? ⟨b, 4, none⟩ = false ∧
    w.frozen? ⟨b, 5, none⟩ = false ∧ w.frozen? ⟨b, 6, none⟩ = false ∧ w.frozen? ⟨b, 7, none⟩ = false ∧ w.frozen? ⟨b, 8, none⟩ = false ∧ w.frozen? ⟨b, 9, none⟩ = false := by
  refine ⟨?_, ?_, ?_, ?_, ?_, ?_, ?_, ?_, ?_, ?_⟩ <;> (unfold World.frozen?; rw [h]; simp)

set_option maxRecDepth 100000 in
set_option maxHeartbeats 8000000 in
theorem parsed_any {B : Nat} (line : ByteArray) (w : World) (hG : Gl B w) (hs : line.size ≤ 1000000) : Calls Tryz.prog 18 #[.string line] w (ParsedPost line w) := by
  obtain ⟨hA0, hW0, hF0⟩ := parsed_start line w
  replace hW0 := hW0 hs
  have hsz0 : ∀ s ∈ splitS line, s.size ≤ 1000000 := fun s h => Nat.le_trans (splitS_size h) hs
  go_enter Tryz.func18, Tryz.ntmps18
  go_wp2_with fail
  refine (split_any line _ (hG.fr0 ((Fr.refl [] w).alloc _)) hs).mono ?_
  rintro e w1 ⟨rfl, rfl⟩
  go_upto_region 2 with fail
  obtain ⟨W3, hW3⟩ : ∃ W3, (((w.alloc (.cells #[.int .i64 0, .int .i64 0, .int .i64 0, .int .i64 0, .string ⟨#[]⟩, .string ⟨#[]⟩, .int .i64 0, .int .i64 0, .slice none 0 0, .slice none 0 0] 35)).alloc (.cells ((splitS line).map Value.string).toArray 9)).alloc (.cells #[.slice (some ⟨w.heap.size + 1, 0, none⟩) (splitS line).length (splitS line).length] 75)) = W3 := ⟨_, rfl⟩
  rw [hW3] at hA0 hW0 hF0 ⊢
  clear hW3
  obtain ⟨rb, hrb⟩ : ∃ rb, w.heap.size + 1 + 1 = rb := ⟨_, rfl⟩
  rw [hrb] at hW0 ⊢
  have hbr : w.heap.size < rb := by omega
  clear hrb
  have hrl := hW0.lt
  have P0 : Hid (parseS line = parse1 (splitS line)) := Lib.hid rfl
  generalize splitS line = ws at *
  have SZ := Lib.hid hsz0; have A0 := Lib.hid hA0; have WS0 := Lib.hid hW0; have F0 := Lib.hid hF0; clear hsz0 hA0 hW0 hF0
  have hGw := Lib.hid hG.up
  go_cut [4, 5] (fun s4 s5 wx => PCut verbOf ws {} w w.heap.size rb s4 s5 wx)
  case first =>
    go_region_with (first | (go_at_call 24; refine (verbs_any _).mono ?_; rintro e w1 ⟨rfl, rfl⟩) | (go_at_call 30; refine (take_any rb ws _ (WS0.out.fr0 (by (repeat (first | exact Fr.refl _ _ | refine Fr.drew ?_ | refine Fr.alloc ?_ _))))).mono ?_; rintro e w2 (⟨s, rest, hws, rfl, hW2, hF2⟩ | ⟨hws, hp, rfl⟩); rotate_left; (have hp' : e = .panicked [{ v := .iface 26 (.int .i64 380), recovered := false }] := hp; subst hp'; exact ⟨rfl, .inr ⟨by rw [P0.out, hws]; rfl, rfl, F0.out.then0 (by (repeat (first | exact Fr.refl _ _ | refine Fr.drew ?_ | refine Fr.alloc ?_ _)))⟩⟩); have HS2 := Lib.hid hws; have hA2 := Lib.hid ((A0.out.fr0 (by (repeat (first | exact Fr.refl _ _ | refine Fr.drew ?_ | refine Fr.alloc ?_ _)))).fr_words hF2 (WS0.out.fr0 (by (repeat (first | exact Fr.refl _ _ | refine Fr.drew ?_ | refine Fr.alloc ?_ _))))); have W2' := Lib.hid hW2; have f02 : Hid (Fr [rb] W3 w2) := Lib.hid (Fr.trans' (S := []) (by (repeat (first | exact Fr.refl _ _ | refine Fr.drew ?_ | refine Fr.alloc ?_ _))) hF2 (by simp) (fun x hx => .inl hx)); (try (have t0 : Hid (w2.heap[W3.heap.size]? = some emptyBox) := Lib.hid (hF2.heap (boxA _ _) (by simp; omega)); obtain ⟨tc0, tc1, tz0, tz1⟩ := box_facts t0.out)); (try (have t1 : Hid (w2.heap[W3.heap.size + 1]? = some emptyBox) := Lib.hid (hF2.heap (boxB _ _) (by simp; omega)); obtain ⟨tc0, tc1, tz0, tz1⟩ := box_facts t1.out)); (first | (have m2 : Hid (w2.heap[W3.heap.size]? = some (.map verbEs 5)) := Lib.hid (hF2.heap (mapA _ _) (by simp; omega))) | (have m2 : Hid (w2.heap[W3.heap.size]? = some (.map verbEs 5)) := Lib.hid (hF2.heap (mapB _ _) (by simp; omega))) | (have m2 : Hid (w2.heap[W3.heap.size + 1]? = some (.map verbEs 5)) := Lib.hid (hF2.heap (mapC _ _) (by simp; omega)))); clear hws hF2 hW2) | (go_at_call 29; refine (kind29_any s _ 5 verbEs _ (by first | exact m2.out | exact (heap_later m2.out)) verbs_ok).mono ?_; rintro e w3 hk; rcases verbOf_post hk with ⟨k, needs, hv, rfl, hF3⟩ | ⟨hv, hp, hF3⟩; rotate_left; (have hp' : e = .panicked [{ v := .iface 26 (.int .i64 380), recovered := false }] := hp; subst hp'; exact ⟨rfl, .inr ⟨by rw [P0.out, HS2.out]; simp only [parse1, hv], rfl, (F0.out.then f02.out (fun x hx => by simp only [List.mem_singleton] at hx; subst hx; exact .inr (Nat.le_of_lt hbr))).then0 (by first | exact hF3 | exact ((Fr.refl [] _).alloc _).trans hF3)⟩⟩); clear hk; have HV3 := Lib.hid hv; (try (have u0 : Hid (w3.heap[W3.heap.size]? = some emptyBox) := Lib.hid (hF3.heap t0.out (by simp)); obtain ⟨uc0, uc1, uz0, uz1⟩ := box_facts u0.out)); (try (have u1 : Hid (w3.heap[W3.heap.size + 1]? = some emptyBox) := Lib.hid (hF3.heap t1.out (by simp)); obtain ⟨uc0, uc1, uz0, uz1⟩ := box_facts u1.out)); (try (have u2 : Hid (w3.heap[w2.heap.size]? = some emptyBox) := Lib.hid (hF3.heap (box0 _) (by simp)); obtain ⟨uc0, uc1, uz0, uz1⟩ := box_facts u2.out)); have f23 : Hid (Fr [] w2 w3) := Lib.hid (by first | exact hF3 | exact ((Fr.refl [] _).alloc _).trans hF3); have F03 : Hid (Fr [] w w3) := Lib.hid ((F0.out.then f02.out (fun x hx => by simp only [List.mem_singleton] at hx; subst hx; exact .inr (Nat.le_of_lt hbr))).then0 f23.out); clear hv hF3))
    · go_wp2_with fail
      go_meet
      exact pcut_new HS2.out HV3.out (hA2.out.fr0 f23.out) (W2'.out.fr0 f23.out) F03.out
    · go_wp2_with fail
      go_meet
      exact pcut_set HS2.out HV3.out u2.out (hA2.out.fr0 f23.out) (W2'.out.fr0 f23.out) F03.out (Nat.le_trans F0.out.size f02.out.size)
    · go_wp2_with fail
      go_meet
      exact pcut_set HS2.out HV3.out u1.out (hA2.out.fr0 f23.out) (W2'.out.fr0 f23.out) F03.out (Nat.le_trans F0.out.size (Nat.le_succ _))
    · go_wp2_with fail
      go_meet
      exact pcut_set HS2.out HV3.out u0.out (hA2.out.fr0 f23.out) (W2'.out.fr0 f23.out) F03.out F0.out.size
  case rest =>
    obtain ⟨v, rest, k, needs, bv, hws, hv, rfl, rfl, hbx, hA, hW, hF⟩ := hcut
    have P1 : Hid (parseS line = parse2 k needs rest) := Lib.hid (by rw [P0.out, hws.out]; simp only [parse1, hv.out])
    obtain ⟨u, hu⟩ := hA.out.cell 0 (by decide)
    have hz := hA.out.frozen 0
    go_upto_region 4 with fail
    obtain ⟨c0, c1, hA4, hW4, hF4⟩ := pcut_store (j := 0) (k := k) (a1 := { kind := k }) hbx.out hA.out hW.out hF.out (Nat.le_refl _) (fun vb vm => ⟨rfl, rfl, rfl⟩)
    generalize wc.setCell ⟨w.heap.size, 0, none⟩ (.int .i64 k) = w4 at *
    have A4 := Lib.hid hA4; have W4 := Lib.hid hW4; have F4 := Lib.hid hF4; clear hA4 hW4 hF4 hu hz
    have SZ4 : Hid (∀ s ∈ rest, s.size ≤ 1000000) := Lib.hid (fun s h => SZ.out s (by rw [hws.out]; exact List.mem_cons_of_mem _ h))
    go_wp2_with fail
    refine (fill_any (B := w.heap.size) v needs w.heap.size rb { kind := k } rest w4 (hGw.out.fr0 F4.out) (Nat.le_refl _) (Nat.le_of_lt hbr) (Nat.ne_of_lt hbr) A4.out W4.out SZ4.out (verbOf_let hv.out).1 (verbOf_let hv.out).2).mono ?_
    rintro e w5 (⟨a1, ws1, hfl, rfl, hA5, hW5, hF5⟩ | ⟨hfl, hp, hF5⟩)
    · have F5 : Hid (Fr [] w w5) := Lib.hid (F4.out.then hF5 (fun x hx => by simp only [List.mem_cons, List.not_mem_nil, or_false] at hx; omega))
      have A5 := Lib.hid hA5; have W5 := Lib.hid hW5
      have SZ5 : Hid (∀ s ∈ ws1, s.size ≤ 1000000) := Lib.hid (fun s h => SZ4.out s (fillL_sub hfl h))
      have P2 : Hid (parseS line = if k = 1 then parse3 a1 ws1 else if ws1 = [] then some a1 else none) := Lib.hid (by rw [P1.out]; simp only [parse2, hfl])
      have hrl5 := hW5.lt
      clear hfl hA5 hW5 hF5 c0 c1 hbx hA hW hF hws hv u
      by_cases hk : k = 1
      · subst hk
        have P3 : Hid (parseS line = parse3 a1 ws1) := Lib.hid (by rw [P2.out, if_pos rfl])
        go_upto_region 6 with fail
        go_cut [6, 7] (fun s6 s7 wx => PCut opOf ws1 a1 w w.heap.size rb s6 s7 wx)
        case first =>
          go_region_with (first | (go_at_call 27; refine (ops_any _).mono ?_; rintro e w1 ⟨rfl, rfl⟩) | (go_at_call 30; refine (take_any rb ws1 _ (W5.out.fr0 (by (repeat (first | exact Fr.refl _ _ | refine Fr.drew ?_ | refine Fr.alloc ?_ _))))).mono ?_; rintro e w2 (⟨s, rest, hws, rfl, hW2, hF2⟩ | ⟨hws, hp, rfl⟩); rotate_left; (have hp' : e = .panicked [{ v := .iface 26 (.int .i64 380), recovered := false }] := hp; subst hp'; exact ⟨rfl, .inr ⟨by rw [P3.out, hws]; rfl, rfl, F5.out.then0 (by (repeat (first | exact Fr.refl _ _ | refine Fr.drew ?_ | refine Fr.alloc ?_ _)))⟩⟩); have HS2 := Lib.hid hws; have hA2 := Lib.hid ((A5.out.fr0 (by (repeat (first | exact Fr.refl _ _ | refine Fr.drew ?_ | refine Fr.alloc ?_ _)))).fr_words hF2 (W5.out.fr0 (by (repeat (first | exact Fr.refl _ _ | refine Fr.drew ?_ | refine Fr.alloc ?_ _))))); have W2' := Lib.hid hW2; have f02 : Hid (Fr [rb] w5 w2) := Lib.hid (Fr.trans' (S := []) (by (repeat (first | exact Fr.refl _ _ | refine Fr.drew ?_ | refine Fr.alloc ?_ _))) hF2 (by simp) (fun x hx => .inl hx)); (try (have t0 : Hid (w2.heap[w5.heap.size]? = some emptyBox) := Lib.hid (hF2.heap (boxA _ _) (by simp; omega)); obtain ⟨tc0, tc1, tz0, tz1⟩ := box_facts t0.out)); (try (have t1 : Hid (w2.heap[w5.heap.size + 1]? = some emptyBox) := Lib.hid (hF2.heap (boxB _ _) (by simp; omega)); obtain ⟨tc0, tc1, tz0, tz1⟩ := box_facts t1.out)); (first | (have m2 : Hid (w2.heap[w5.heap.size]? = some (.map opvEs 11)) := Lib.hid (hF2.heap (mapA _ _) (by simp; omega))) | (have m2 : Hid (w2.heap[w5.heap.size]? = some (.map opvEs 11)) := Lib.hid (hF2.heap (mapB _ _) (by simp; omega))) | (have m2 : Hid (w2.heap[w5.heap.size + 1]? = some (.map opvEs 11)) := Lib.hid (hF2.heap (mapC _ _) (by simp; omega)))); clear hws hF2 hW2) | (go_at_call 32; refine (kind32_any s _ 11 opvEs _ (by first | exact m2.out | exact (heap_later m2.out)) opvs_ok).mono ?_; rintro e w3 hk; rcases opOf_post hk with ⟨k, needs, hv, rfl, hF3⟩ | ⟨hv, hp, hF3⟩; rotate_left; (have hp' : e = .panicked [{ v := .iface 26 (.int .i64 380), recovered := false }] := hp; subst hp'; exact ⟨rfl, .inr ⟨by rw [P3.out, HS2.out]; simp only [parse3, hv], rfl, (F5.out.then f02.out (fun x hx => by simp only [List.mem_singleton] at hx; subst hx; exact .inr (Nat.le_of_lt hbr))).then0 (by first | exact hF3 | exact ((Fr.refl [] _).alloc _).trans hF3)⟩⟩); clear hk; have HV3 := Lib.hid hv; (try (have u0 : Hid (w3.heap[w5.heap.size]? = some emptyBox) := Lib.hid (hF3.heap t0.out (by simp)); obtain ⟨uc0, uc1, uz0, uz1⟩ := box_facts u0.out)); (try (have u1 : Hid (w3.heap[w5.heap.size + 1]? = some emptyBox) := Lib.hid (hF3.heap t1.out (by simp)); obtain ⟨uc0, uc1, uz0, uz1⟩ := box_facts u1.out)); (try (have u2 : Hid (w3.heap[w2.heap.size]? = some emptyBox) := Lib.hid (hF3.heap (box0 _) (by simp)); obtain ⟨uc0, uc1, uz0, uz1⟩ := box_facts u2.out)); have f23 : Hid (Fr [] w2 w3) := Lib.hid (by first | exact hF3 | exact ((Fr.refl [] _).alloc _).trans hF3); have F03 : Hid (Fr [] w w3) := Lib.hid ((F5.out.then f02.out (fun x hx => by simp only [List.mem_singleton] at hx; subst hx; exact .inr (Nat.le_of_lt hbr))).then0 f23.out); clear hv hF3))
          · go_wp2_with fail
            go_meet
            exact pcut_new HS2.out HV3.out (hA2.out.fr0 f23.out) (W2'.out.fr0 f23.out) F03.out
          · go_wp2_with fail
            go_meet
            exact pcut_set HS2.out HV3.out u2.out (hA2.out.fr0 f23.out) (W2'.out.fr0 f23.out) F03.out (Nat.le_trans F5.out.size f02.out.size)
          · go_wp2_with fail
            go_meet
            exact pcut_set HS2.out HV3.out u1.out (hA2.out.fr0 f23.out) (W2'.out.fr0 f23.out) F03.out (Nat.le_trans F5.out.size (Nat.le_succ _))
          · go_wp2_with fail
            go_meet
            exact pcut_set HS2.out HV3.out u0.out (hA2.out.fr0 f23.out) (W2'.out.fr0 f23.out) F03.out F5.out.size
        case rest =>
          obtain ⟨v6, rest6, x6, needs6, bv6, hws6, hv6, rfl, rfl, hbx6, hA6, hW6, hF6⟩ := hcut
          have P4 : Hid (parseS line = match fillL needs6.data.toList { a1 with opk := x6 } rest6 with | none => none | some (a2, ws4) => if ws4 = [] then some a2 else none) := Lib.hid (by rw [P3.out, hws6.out]; simp only [parse3, hv6.out])
          obtain ⟨u6, hu6⟩ := hA6.out.cell 3 (by decide)
          have hz6 := hA6.out.frozen 3
          go_upto_region 8 with fail
          obtain ⟨c60, c61, hA7, hW7, hF7⟩ := pcut_store (j := 3) (k := x6) (a1 := { a1 with opk := x6 }) hbx6.out hA6.out hW6.out hF6.out (Nat.le_refl _) (fun vb vm => ⟨rfl, rfl, rfl⟩)
          generalize wc.setCell ⟨w.heap.size, 3, none⟩ (.int .i64 x6) = w7 at *
          have A7 := Lib.hid hA7; have W7 := Lib.hid hW7; have F7 := Lib.hid hF7; clear hA7 hW7 hF7 hu6 hz6
          have SZ7 : Hid (∀ s ∈ rest6, s.size ≤ 1000000) := Lib.hid (fun s h => SZ5.out s (by rw [hws6.out]; exact List.mem_cons_of_mem _ h))
          go_wp2_with fail
          refine (fill_any (B := w.heap.size) v6 needs6 w.heap.size rb { a1 with opk := x6 } rest6 w7 (hGw.out.fr0 F7.out) (Nat.le_refl _) (Nat.le_of_lt hbr) (Nat.ne_of_lt hbr) A7.out W7.out SZ7.out (opOf_let hv6.out).1 (opOf_let hv6.out).2).mono ?_
          rintro e w8 (⟨a2, ws2, hfl, rfl, hA8, hW8, hF8⟩ | ⟨hfl, hp, hF8⟩)
          · have F8 : Hid (Fr [] w w8) := Lib.hid (F7.out.then hF8 (fun x hx => by simp only [List.mem_cons, List.not_mem_nil, or_false] at hx; omega))
            have A8 := Lib.hid hA8; have W8 := Lib.hid hW8
            have P5 : Hid (parseS line = if ws2 = [] then some a2 else none) := Lib.hid (by rw [P4.out]; simp only [hfl])
            clear hfl hA8 hW8 hF8 c60 c61 hbx6 hA6 hW6 hF6 hws6 hv6 u6
            obtain ⟨vb, vm, hh, ho1, ho2⟩ := A8.out
            cases hws9 : ws2 with
            | cons t0 ts =>
              have HW9 := Lib.hid hws9; clear hws9
              obtain ⟨ao, cap, h1, -⟩ := (show WordsAt w8 rb (t0 :: ts) from HW9.out ▸ W8.out)
              have cw : w8.cell? ⟨rb, 0, none⟩ = some (.slice ao (ts.length + 1) cap) := cell_of_row w8 rb 0 _ _ _ h1
              have elen : (((ts.length : Int) + 1) == 0) = false := beq_eq_false_iff_ne.2 (by omega)
              clear h1 hh ho1 ho2
              go_wp2_with fail
              refine (must_no 380 _).mono ?_
              rintro e w9 ⟨rfl, rfl⟩
              exact ⟨rfl, .inr ⟨by rw [P5.out, HW9.out]; simp, rfl, F8.out⟩⟩
            | nil =>
              have HW9 := Lib.hid hws9; clear hws9
              obtain ⟨ao, cap, h1, -⟩ := (show WordsAt w8 rb [] from HW9.out ▸ W8.out)
              have cw : w8.cell? ⟨rb, 0, none⟩ = some (.slice ao 0 cap) := cell_of_row w8 rb 0 _ _ _ h1
              obtain ⟨ab, cb, rfl⟩ := own_slice ho1
              obtain ⟨am, cm, rfl⟩ := own_slice ho2
              have HO1 := Lib.hid ho1; have HO2 := Lib.hid ho2; clear ho1 ho2 h1
              obtain ⟨d0, d1, d2, d3, d4, d5, d6, d7, d8, d9⟩ := act_cells hh
              obtain ⟨s0, s1, s2, s3, s4, s5, s6, s7, s8, s9⟩ := act_same hh
              obtain ⟨z0, z1, z2, z3, z4, z5, z6, z7, z8, z9⟩ := act_frozen hh
              clear hh
              go_wp2_with fail
              refine (must_ok 380 _).mono ?_
              rintro e w9 ⟨rfl, rfl⟩
              go_wp2_with fail
              refine bodyPost_ret (v := .agg (actCells a2 (.slice ab a2.bytes.length cb) (.slice am a2.marks.length cm))) (by simp [results, Tryz.results18, go_sem, d0, d1, d2, d3, d4, d5, d6, d7, d8, d9, actCells]) rfl ?_
              exact .inl ⟨a2, _, _, by rw [P5.out, HW9.out]; simp, rfl, HO1.out, HO2.out, F8.out⟩
          · have hp' : e = .panicked [{ v := .iface 26 (.int .i64 380), recovered := false }] := hp
            subst hp'
            exact ⟨rfl, .inr ⟨by rw [P4.out]; simp only [hfl], rfl, F7.out.then hF8 (fun x hx => by simp only [List.mem_cons, List.not_mem_nil, or_false] at hx; omega)⟩⟩
      · have ek : (k == 1) = false := beq_eq_false_iff_ne.2 hk
        have P3 : Hid (parseS line = if ws1 = [] then some a1 else none) := Lib.hid (by rw [P2.out, if_neg hk])
        clear hk
        obtain ⟨vb, vm, hh, ho1, ho2⟩ := A5.out
        cases hws9 : ws1 with
        | cons t0 ts =>
          have HW9 := Lib.hid hws9; clear hws9
          obtain ⟨ao, cap, h1, -⟩ := (show WordsAt w5 rb (t0 :: ts) from HW9.out ▸ W5.out)
          have cw : w5.cell? ⟨rb, 0, none⟩ = some (.slice ao (ts.length + 1) cap) := cell_of_row w5 rb 0 _ _ _ h1
          have elen : (((ts.length : Int) + 1) == 0) = false := beq_eq_false_iff_ne.2 (by omega)
          clear h1 hh ho1 ho2
          go_wp2_with fail
          refine (must_no 380 _).mono ?_
          rintro e w9 ⟨rfl, rfl⟩
          exact ⟨rfl, .inr ⟨by rw [P3.out, HW9.out]; simp, rfl, F5.out⟩⟩
        | nil =>
          have HW9 := Lib.hid hws9; clear hws9
          obtain ⟨ao, cap, h1, -⟩ := (show WordsAt w5 rb [] from HW9.out ▸ W5.out)
          have cw : w5.cell? ⟨rb, 0, none⟩ = some (.slice ao 0 cap) := cell_of_row w5 rb 0 _ _ _ h1
          obtain ⟨ab, cb, rfl⟩ := own_slice ho1
          obtain ⟨am, cm, rfl⟩ := own_slice ho2
          have HO1 := Lib.hid ho1; have HO2 := Lib.hid ho2; clear ho1 ho2 h1
          obtain ⟨d0, d1, d2, d3, d4, d5, d6, d7, d8, d9⟩ := act_cells hh
          obtain ⟨s0, s1, s2, s3, s4, s5, s6, s7, s8, s9⟩ := act_same hh
          obtain ⟨z0, z1, z2, z3, z4, z5, z6, z7, z8, z9⟩ := act_frozen hh
          clear hh
          go_wp2_with fail
          refine (must_ok 380 _).mono ?_
          rintro e w9 ⟨rfl, rfl⟩
          go_wp2_with fail
          refine bodyPost_ret (v := .agg (actCells a1 (.slice ab a1.bytes.length cb) (.slice am a1.marks.length cm))) (by simp [results, Tryz.results18, go_sem, d0, d1, d2, d3, d4, d5, d6, d7, d8, d9, actCells]) rfl ?_
          exact .inl ⟨a1, _, _, by rw [P3.out, HW9.out]; simp, rfl, HO1.out, HO2.out, F5.out⟩
    · have hp' : e = .panicked [{ v := .iface 26 (.int .i64 380), recovered := false }] := hp
      subst hp'
      exact ⟨rfl, .inr ⟨by rw [P1.out]; simp only [parse2, hfl], rfl, F4.out.then hF5 (fun x hx => by simp only [List.mem_cons, List.not_mem_nil, or_false] at hx; omega)⟩⟩
end Go.Proofs.YtnldlakcopbpcaaGreatDoor
