/- Plain: what is parsed is within the bounds. -/
import Derived.Test.YtnldlakcopbpcaaGreatDoorLaid
import Derived.Test.YtnldlakcopbpcaaGreatDoorParse
import Derived.Lib.AtoiAllCases
namespace Go.Proofs.YtnldlakcopbpcaaGreatDoor
open Go.RowKit Go.Lib

theorem ok_zero : ActOk {} := by
  refine ⟨?_, ?_, ?_, ?_, ?_, ?_, ?_, ?_, ?_⟩ <;> first | exact ⟨by decide, by decide⟩ | decide | (intro n hn; cases hn)

theorem number_i64 {s : ByteArray} {v : Int} (h : numberS s = some v) : isI64 v := by
  unfold numberS at h
  split at h
  · rename_i u hu
    split at h
    · simp only [Option.some.injEq] at h; subst h; exact Lib.atoiAll_bounds hu
    · cases h
  · cases h

theorem half_lt' {c : UInt8} {x : Nat} (h : halfS c = some x) : x < 16 := halfS_lt h

theorem hexL_ok : ∀ {l : List UInt8} {ns : List Nat}, hexL l = some ns → ns.length * 2 = l.length ∧ ∀ n ∈ ns, n < 256
  | [], ns, h => by simp only [hexL, Option.some.injEq] at h; subst h; simp
  | [_], ns, h => by simp [hexL] at h
  | a :: b :: r, ns, h => by
    simp only [hexL] at h
    split at h
    · cases h
    · rename_i x hx
      split at h
      · cases h
      · rename_i y hy
        cases hr : hexL r with
        | none => rw [hr] at h; cases h
        | some ms =>
          rw [hr] at h
          simp only [Option.map_some, Option.some.injEq] at h
          subst h
          have ih := hexL_ok hr
          have h1 := half_lt' hx
          have h2 := half_lt' hy
          refine ⟨by simp only [List.length_cons]; omega, fun n hn => ?_⟩
          rcases List.mem_cons.1 hn with rfl | hn
          · unfold hexB; omega
          · exact ih.2 n hn

theorem bytes_ok {s : ByteArray} {l : List Nat} (h : bytesS s = some l) : l.length ≤ 500 ∧ ∀ n ∈ l, n < 256 := by
  unfold bytesS at h
  split at h
  · simp only [Option.some.injEq] at h; subst h; simp
  · split at h
    · rename_i hs
      have := hexL_ok h
      have e : s.data.toList.length = s.size := (Lib.size_eq s).symm
      exact ⟨by omega, this.2⟩
    · cases h

theorem marks_ok {s : ByteArray} {l : List Bool} (h : marksS s = some l) : l.length ≤ 80 := by
  unfold marksS at h
  split at h
  · simp only [Option.some.injEq] at h; subst h; simp
  · split at h
    · rename_i hs
      simp only [Option.some.injEq] at h; subst h
      have e : s.data.toList.length = s.size := (Lib.size_eq s).symm
      have := hs.2.1
      rw [List.length_map]; omega
    · cases h

theorem fill1_ok {c : Int} {a a' : ActD} {s : ByteArray} (ok : ActOk a) (h : fill1 c a s = some a') : ActOk a' := by
  have hp : pathS s = true → s.size ≤ 400 := fun h => by
    unfold pathS at h
    simp only [Bool.and_eq_true, decide_eq_true_eq] at h
    omega
  unfold fill1 at h
  split at h
  · cases e : numberS s with
    | none => rw [e] at h; cases h
    | some v => rw [e] at h; simp only [Option.map_some, Option.some.injEq] at h; subst h; exact { ok with thread := number_i64 e }
  split at h
  · cases e : numberS s with
    | none => rw [e] at h; cases h
    | some v => rw [e] at h; simp only [Option.map_some, Option.some.injEq] at h; subst h; exact { ok with n := number_i64 e }
  split at h
  · cases e : numberS s with
    | none => rw [e] at h; cases h
    | some v => rw [e] at h; simp only [Option.map_some, Option.some.injEq] at h; subst h; exact { ok with at_ := number_i64 e }
  split at h
  · cases e : numberS s with
    | none => rw [e] at h; cases h
    | some v => rw [e] at h; simp only [Option.map_some, Option.some.injEq] at h; subst h; exact { ok with opn := number_i64 e }
  split at h
  · split at h
    · rename_i hq; simp only [Option.some.injEq] at h; subst h; exact { ok with path := hp hq }
    · cases h
  split at h
  · split at h
    · rename_i hq; simp only [Option.some.injEq] at h; subst h; exact { ok with dest := hp hq }
    · cases h
  split at h
  · cases e : bytesS s with
    | none => rw [e] at h; cases h
    | some v => rw [e] at h; simp only [Option.map_some, Option.some.injEq] at h; subst h; exact { ok with blen := (bytes_ok e).1, bs := (bytes_ok e).2 }
  split at h
  · cases e : marksS s with
    | none => rw [e] at h; cases h
    | some v => rw [e] at h; simp only [Option.map_some, Option.some.injEq] at h; subst h; exact { ok with mlen := marks_ok e }
  · cases h

theorem fillL_ok : ∀ {cs : List UInt8} {a a' : ActD} {ws ws' : List ByteArray}, ActOk a → fillL cs a ws = some (a', ws') → ActOk a'
  | [], a, a', ws, ws', ok, h => by simp only [fillL, Option.some.injEq, Prod.mk.injEq] at h; rw [← h.1]; exact ok
  | _ :: _, _, _, [], _, _, h => by simp [fillL] at h
  | c :: cs, a, a', s :: ws, ws', ok, h => by
    simp only [fillL] at h
    split at h
    · cases h
    · rename_i a1 h1
      exact fillL_ok (fill1_ok ok h1) h

theorem ok_kind {a : ActD} (ok : ActOk a) (k : Int) : ActOk { a with kind := k } := { ok with }
theorem ok_opk {a : ActD} (ok : ActOk a) (k : Int) : ActOk { a with opk := k } := { ok with }

theorem parseS_ok {line : ByteArray} {a : ActD} (h : parseS line = some a) : ActOk a := by
  unfold parseS at h
  generalize splitS line = ws at h
  unfold parse1 at h
  split at h
  · cases h
  · split at h
    · cases h
    · unfold parse2 at h
      split at h
      · cases h
      · rename_i a1 ws2 h1
        have ok1 := fillL_ok (ok_kind ok_zero _) h1
        split at h
        · unfold parse3 at h
          split at h
          · cases h
          · split at h
            · cases h
            · split at h
              · cases h
              · rename_i a2 ws4 h2
                split at h
                · simp only [Option.some.injEq] at h; subst h; exact fillL_ok (ok_opk ok1 _) h2
                · cases h
        · split at h
          · simp only [Option.some.injEq] at h; subst h; exact ok1
          · cases h

theorem parseA_ok (line : ByteArray) : ActOk (parseA line) := by
  unfold parseA
  cases h : parseS line with
  | none => exact ok_zero
  | some a => exact parseS_ok h
end Go.Proofs.YtnldlakcopbpcaaGreatDoor
