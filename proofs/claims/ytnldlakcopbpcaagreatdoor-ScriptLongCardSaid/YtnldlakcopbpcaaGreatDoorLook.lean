/- Laws: what verbs and operations are called, looked up by a kind. -/
import Derived.Test.YtnldlakcopbpcaaGreatDoorAdd
namespace Go.Proofs.YtnldlakcopbpcaaGreatDoor
open Go.RowKit Go.Lib

def verbAt (k : Int) : ByteArray × ByteArray :=
  if k = 1 then (⟨#[113, 117, 101, 117, 101]⟩, ⟨#[116]⟩)
  else if k = 2 then (⟨#[115, 116, 101, 112]⟩, ⟨#[116, 109]⟩)
  else if k = 3 then (⟨#[101, 118, 105, 99, 116]⟩, ⟨#[109]⟩)
  else if k = 4 then (⟨#[99, 114, 97, 115, 104]⟩, ⟨#[107]⟩)
  else if k = 5 then (⟨#[114, 101, 99, 111, 118, 101, 114]⟩, ⟨#[109]⟩)
  else (⟨#[]⟩, ⟨#[]⟩)

def valAt (l : List MapEntry) (k : Int) : Value :=
  match l with
  | [] => .agg #[.string ⟨#[]⟩, .string ⟨#[]⟩]
  | e :: l => match e.key with | .int _ j => if k = j then e.val else valAt l k | _ => valAt l k

theorem find_val (k : Int) : ∀ (l : List MapEntry) (i : Nat), (∀ e ∈ l, ∃ j, e.key = .int .i64 j) →
    (Instr.findNow (.int .i64) (.int .i64 k) l i = some none ∧ valAt l k = .agg #[.string ⟨#[]⟩, .string ⟨#[]⟩]) ∨ ∃ j, Instr.findNow (.int .i64) (.int .i64 k) l i = some (some (j, valAt l k))
  | [], i, _ => .inl ⟨rfl, rfl⟩
  | e :: l, i, h => by
    obtain ⟨j, hj⟩ := h e (by simp)
    obtain ⟨key, val, born⟩ := e
    simp only at hj
    subst hj
    by_cases hk : j = k
    · subst hk
      right
      refine ⟨i, ?_⟩
      simp [Instr.findNow, valAt, Instr.sameNow]
    · have := find_val k l (i + 1) (fun e he => h e (by simp [he]))
      have hb : ¬ k = j := fun e => hk e.symm
      have hb2 : (k == j) = false := by simpa using hb
      simpa [Instr.findNow, valAt, Instr.sameNow, hk, hb, hb2] using this

theorem run_lookup_val (w : World) (mty kt r clock : Nat) (es : Array MapEntry) (k : Int) (hm : Tryz.prog.underlying mty = some (.map kt 58)) (hd : Tryz.prog.underlying kt = some (.int .i64))
    (hb : w.heap[r]? = some (.map es clock)) (he : ∀ e ∈ es.toList, ∃ j, e.key = .int .i64 j) :
    (Instr.lookup mty (.map (some r)) (.int .i64 k) false).run Tryz.prog w = .ok (valAt es.toList k) w := by
  rcases find_val k es.toList 0 he with ⟨h1, h2⟩ | ⟨j, h⟩
  · have hc : (Instr.checkKey es.isEmpty 10000 kt (.int .i64 k)).run Tryz.prog w = .ok () w := MapKept.run_checkKey (k := .int .i64 k) hd (by simp [MapKept.IsKey]) _ 9999
    rw [h2]
    simp [Instr.lookup, run_underlying hm, MapKept.run_getObj_map hb, hc, MapKept.run_findKey hd h1, Result.andThen]
  · exact run_lookup_found _ hm hd (by simp [MapKept.IsKey]) hb h

theorem val_verb (k : Int) : valAt verbEs.toList k = .agg #[.string (verbAt k).1, .string (verbAt k).2] := by
  by_cases h1 : k = 1
  · subst h1; rfl
  by_cases h2 : k = 2
  · subst h2; rfl
  by_cases h3 : k = 3
  · subst h3; rfl
  by_cases h4 : k = 4
  · subst h4; rfl
  by_cases h5 : k = 5
  · subst h5; rfl
  simp [verbEs, valAt, verbAt, h1, h2, h3, h4, h5]
def opAt (k : Int) : ByteArray × ByteArray :=
  if k = 1 then (⟨#[115, 116, 97, 116]⟩, ⟨#[112]⟩)
  else if k = 2 then (⟨#[108, 105, 115, 116]⟩, ⟨#[112]⟩)
  else if k = 3 then (⟨#[114, 101, 97, 100]⟩, ⟨#[112, 97, 110]⟩)
  else if k = 4 then (⟨#[109, 97, 107, 101]⟩, ⟨#[112]⟩)
  else if k = 5 then (⟨#[109, 107, 100, 105, 114]⟩, ⟨#[112]⟩)
  else if k = 6 then (⟨#[117, 110, 108, 105, 110, 107]⟩, ⟨#[112]⟩)
  else if k = 7 then (⟨#[114, 109, 100, 105, 114]⟩, ⟨#[112]⟩)
  else if k = 8 then (⟨#[114, 101, 110, 97, 109, 101]⟩, ⟨#[112, 113]⟩)
  else if k = 9 then (⟨#[108, 105, 110, 107]⟩, ⟨#[112, 113]⟩)
  else if k = 10 then (⟨#[119, 114, 105, 116, 101]⟩, ⟨#[112, 97, 98]⟩)
  else if k = 11 then (⟨#[99, 117, 116]⟩, ⟨#[112, 110]⟩)
  else (⟨#[]⟩, ⟨#[]⟩)

theorem val_op (k : Int) : valAt opvEs.toList k = .agg #[.string (opAt k).1, .string (opAt k).2] := by
  by_cases h1 : k = 1
  · subst h1; rfl
  by_cases h2 : k = 2
  · subst h2; rfl
  by_cases h3 : k = 3
  · subst h3; rfl
  by_cases h4 : k = 4
  · subst h4; rfl
  by_cases h5 : k = 5
  · subst h5; rfl
  by_cases h6 : k = 6
  · subst h6; rfl
  by_cases h7 : k = 7
  · subst h7; rfl
  by_cases h8 : k = 8
  · subst h8; rfl
  by_cases h9 : k = 9
  · subst h9; rfl
  by_cases h10 : k = 10
  · subst h10; rfl
  by_cases h11 : k = 11
  · subst h11; rfl
  simp [opvEs, valAt, opAt, h1, h2, h3, h4, h5, h6, h7, h8, h9, h10, h11]
theorem keys_verb : ∀ e ∈ verbEs.toList, ∃ j, e.key = .int .i64 j := by
  intro e he
  simp only [verbEs, List.mem_cons, List.not_mem_nil, or_false] at he
  rcases he with rfl | rfl | rfl | rfl | rfl <;> exact ⟨_, rfl⟩
theorem keys_op : ∀ e ∈ opvEs.toList, ∃ j, e.key = .int .i64 j := by
  intro e he
  simp only [opvEs, List.mem_cons, List.not_mem_nil, or_false] at he
  rcases he with rfl | rfl | rfl | rfl | rfl | rfl | rfl | rfl | rfl | rfl | rfl <;> exact ⟨_, rfl⟩
theorem let_verb (k : Int) : (∀ c ∈ (verbAt k).2.data.toList, (c.toNat : Int) ∈ letters) ∧ (verbAt k).2.size ≤ 3 ∧ (verbAt k).1.size ≤ 7 := by
  by_cases h1 : k = 1
  · subst h1; decide
  by_cases h2 : k = 2
  · subst h2; decide
  by_cases h3 : k = 3
  · subst h3; decide
  by_cases h4 : k = 4
  · subst h4; decide
  by_cases h5 : k = 5
  · subst h5; decide
  have e : verbAt k = (⟨#[]⟩, ⟨#[]⟩) := by simp [verbAt, h1, h2, h3, h4, h5]
  rw [e]; decide
theorem let_op (k : Int) : (∀ c ∈ (opAt k).2.data.toList, (c.toNat : Int) ∈ letters) ∧ (opAt k).2.size ≤ 3 ∧ (opAt k).1.size ≤ 7 := by
  by_cases h1 : k = 1
  · subst h1; decide
  by_cases h2 : k = 2
  · subst h2; decide
  by_cases h3 : k = 3
  · subst h3; decide
  by_cases h4 : k = 4
  · subst h4; decide
  by_cases h5 : k = 5
  · subst h5; decide
  by_cases h6 : k = 6
  · subst h6; decide
  by_cases h7 : k = 7
  · subst h7; decide
  by_cases h8 : k = 8
  · subst h8; decide
  by_cases h9 : k = 9
  · subst h9; decide
  by_cases h10 : k = 10
  · subst h10; decide
  by_cases h11 : k = 11
  · subst h11; decide
  have e : opAt k = (⟨#[]⟩, ⟨#[]⟩) := by simp [opAt, h1, h2, h3, h4, h5, h6, h7, h8, h9, h10, h11]
  rw [e]; decide

theorem look_verb (w : World) (r : Nat) (k : Int) (hb : w.heap[r]? = some (.map verbEs 5)) :
    (Instr.lookup 59 (.map (some r)) (.int .i64 k) false).run Tryz.prog w = .ok (.agg #[.string (verbAt k).1, .string (verbAt k).2]) w := by
  rw [run_lookup_val w 59 29 r 5 verbEs k Tryz.underlying59 Tryz.underlying29 hb keys_verb, val_verb]
theorem look_op (w : World) (r : Nat) (k : Int) (hb : w.heap[r]? = some (.map opvEs 11)) :
    (Instr.lookup 67 (.map (some r)) (.int .i64 k) false).run Tryz.prog w = .ok (.agg #[.string (opAt k).1, .string (opAt k).2]) w := by
  rw [run_lookup_val w 67 30 r 11 opvEs k Tryz.underlying67 Tryz.underlying30 hb keys_op, val_op]
theorem field_name (x y : Value) (w : World) : (Instr.field 58 (.agg #[x, y]) 0).run Tryz.prog w = .ok x w := by kernel_rfl
end Go.Proofs.YtnldlakcopbpcaaGreatDoor
