/- What a row's claim gives at its first world, and what it asks behind the call: for the statements of this seat. -/
import Derived.Test.YtnldlakcopbpcaaGreatDoorCards
import Derived.Test.YtnldlakcopbpcaaGreatDoorTie
import Derived.Test.YtnldlakcopbpcaaGreatDoorWorks
import Derived.WalkKit
import Derived.ProofKit
import Derived.OpenShut
import Derived.Deep.DeepHandedRow
import Derived.Deep.Slices
import Derived.Lib.LaidTab
import Derived.Lib.LaidU8
import Derived.Lay
import Derived.LaidSub
import Derived.MakeChecks
import Derived.Carry
import Derived.Shelf.Vars
namespace Go.Proofs.YtnldlakcopbpcaaGreatDoor
open Go.ChangeShapes Go.WideShapes Go.ChangeAt Go.RowKit Go.Lib Go.Deep

theorem own : ownKnob Tryz.prog.godebug = none := by kernel_rfl
theorem laidOut : laidOutB Tryz.prog = true := by kernel_rfl

/-! ### The package-level variables -/
theorem low_size {w : World} (h : w.ShapedOpen Tryz.prog) : Tryz.prog.low ≤ w.heap.size := by
  have h0 : Tryz.prog.globals.size < Tryz.prog.low := of_decide_eq_true (by kernel_rfl)
  obtain ⟨o, o0, h1, _⟩ := h.2 (Tryz.prog.low - 1) (by omega) (by unfold Program.low at h0 ⊢; omega)
  have := (Array.getElem?_eq_some_iff.1 h1).1
  omega
theorem sentinel_of {w : World} {n : String} {nm : String} {d : DataW Unit} (h : VarReads Tryz.prog w n (.iface nm d)) (hi : ∀ g t, Tryz.prog.globalNamed n = some g → (Tryz.prog.globals[g]?).map (·.type) = some t → ∃ ms, Tryz.prog.underlying t = some (.interface ms)) :
    ∃ tp p, w.var? Tryz.prog n = some #[.iface tp p] := by
  obtain ⟨g, t, cs, fuel, p, h1, h2, h3, h4⟩ := h
  obtain ⟨ms, hm⟩ := hi g t h1 h2
  cases fuel with
  | zero => simp [DataW.trod] at h4
  | succ n =>
    unfold DataW.trod at h4
    rw [hm] at h4
    split at h4 <;> simp_all
    rename_i u v e _
    have : cs = #[.iface u v] := by
      obtain ⟨l⟩ := cs
      simp_all
    exact ⟨u, v, this⟩
theorem nPow : Tryz.prog.globalNamed "internal/strconv.uint64pow10" = some 5 := by kernel_rfl
theorem yPow : (Tryz.prog.globals[5]?).map (·.type) = some 171 := by kernel_rfl
theorem nSyn : Tryz.prog.globalNamed "strconv.ErrSyntax" = some 3 := by kernel_rfl
theorem nRng : Tryz.prog.globalNamed "strconv.ErrRange" = some 4 := by kernel_rfl
theorem ySyn : (Tryz.prog.globals[3]?).map (·.type) = some 109 := by kernel_rfl
theorem yRng : (Tryz.prog.globals[4]?).map (·.type) = some 109 := by kernel_rfl
theorem powData : Rows.laid_internal_strconv_uint64pow10 (H := Unit) = tabData .u64 Lib.pow10Tab := by kernel_rfl
theorem gl_of {w : World} (hs : w.ShapedOpen Tryz.prog) (h1 : VarReads Tryz.prog w "internal/strconv.uint64pow10" Rows.laid_internal_strconv_uint64pow10) (h2 : VarReads Tryz.prog w "strconv.ErrSyntax" Rows.laid_strconv_ErrSyntax) (h3 : VarReads Tryz.prog w "strconv.ErrRange" Rows.laid_strconv_ErrRange) : Gl w.heap.size w := by
  refine ⟨low_size hs, Nat.le_refl _, ?_, ?_, ?_, ?_⟩
  · exact cell_of_shapedOpen_int (P := Tryz.prog) (g := 0) (t := 3) (zero := #[.int .i64 0]) hs (of_decide_eq_true (by kernel_rfl)) (by kernel_rfl) rfl (by kernel_rfl) (by kernel_rfl) Tryz.underlying3
  · obtain ⟨g, t, cs, fuel, p, e1, e2, e3, e4⟩ := h1
    obtain rfl := Option.some.inj (nPow.symm.trans e1)
    obtain rfl := Option.some.inj (yPow.symm.trans e2)
    rw [powData] at e4
    unfold TabIs
    rw [e3, ← cells_of_tab Tryz.underlying171 Tryz.underlying112 (by kernel_rfl) (by kernel_rfl) e4]
  · exact sentinel_of h2 (fun g t hg ht => by
      obtain rfl := Option.some.inj (nSyn.symm.trans hg)
      obtain rfl := Option.some.inj (ySyn.symm.trans ht)
      exact ⟨_, Tryz.underlying109⟩)
  · exact sentinel_of h3 (fun g t hg ht => by
      obtain rfl := Option.some.inj (nRng.symm.trans hg)
      obtain rfl := Option.some.inj (yRng.symm.trans ht)
      exact ⟨_, Tryz.underlying109⟩)

/-! ### The witness -/
theorem witness_zip {H : Type} {enc : TypeId × Value → H} {C : Checked} {os : Os} {f : FuncId} {fn : Func} {s : OpenSpec} {conds : List PathCond} {apart : Bool} {laid : List (String × DataW Unit)} (w0 : World) (args : Array Value) (hos : w0.os = os)
    (hsh : (w0.forCall (fun _ _ => 0) ⟨#[], args, []⟩).Shaped C.prog)
    (hok : Input.okWideB C.prog (w0.forCall (fun _ _ => 0) ⟨#[], args, []⟩) f ⟨#[], args, []⟩ = true)
    (hrow : s.preRow enc C.prog fn conds apart laid (w0.forCall (fun _ _ => 0) ⟨#[], args, []⟩).memory args) :
    ∃ (w : World) (tape : Tape) (i : Input), w.os = os ∧ (w.forCall tape i).Shaped C.prog ∧ i.vars = [] ∧ Input.okWide C.prog (w.forCall tape i) .any w.heap.size f i ∧
      s.preRow enc C.prog fn conds apart laid (w.forCall tape i).memory i.args ∧ ({} : Assume).holds C.prog (lone (Frame.enter C.prog f i.args .normal) [] (w.forCall tape i)) :=
  ⟨w0, fun _ _ => 0, ⟨#[], args, []⟩, hos, hsh, (Input.okWide_of_okWideB (base := 0) hok).1, (Input.okWide_of_okWideB hok).2, hrow, by simp [Assume.holds]⟩

def laidList : List (String × DataW Unit) := [("math/bits.deBruijn32tab", Rows.laid_math_bits_deBruijn32tab), ("math/bits.deBruijn64tab", Rows.laid_math_bits_deBruijn64tab), ("internal/strconv.uint64pow10", Rows.laid_internal_strconv_uint64pow10), ("unicode/utf8.acceptRanges", Rows.laid_unicode_utf8_acceptRanges), ("strconv.ErrRange", Rows.laid_strconv_ErrRange), ("strconv.ErrSyntax", Rows.laid_strconv_ErrSyntax), ("unicode/utf8.first", Rows.laid_unicode_utf8_first)]
theorem laid_met (os : Os) (args : Array Value) : laidMet Tryz.prog laidList ((World.laidAll Tryz.prog os laidList).forCall (fun _ _ => 0) ⟨#[], args, []⟩).memory :=
  laidMet_laidAll _ (by kernel_rfl) (by kernel_rfl)
theorem laidH {w : World} (h : laidMetH Tryz.prog laidList w) : laidMet Tryz.prog laidList w := by rwa [MakeChecks.laidMetH_plain _ _ _ (by kernel_rfl)] at h
theorem gl_of_laid {w : World} (hs : w.ShapedOpen Tryz.prog) (h : laidMetH Tryz.prog laidList w) : Gl w.heap.size w :=
  gl_of hs (Lib.laidMet.reads (laidH h) (by simp [laidList])) (Lib.laidMet.reads (laidH h) (by simp [laidList])) (Lib.laidMet.reads (laidH h) (by simp [laidList]))

/-! ### Behind the call -/
theorem args_back {H : Type} {enc : TypeId × Value → H} {W W' : World} (hb : Go.RowKit.Below W.heap.size W W') (sp : Nat → Bool) {t : TypeId} {v : Value} {d : DataW H} {ps : List MemPlace} (hr : Tryz.prog.readableRec t = true) (hrow : t < Tryz.prog.types.size)
    (h : DataW.Trod enc Tryz.prog W 0 (fun _ => true) true t v d ps) (hlt : ∀ x ∈ ps, x.block < W.heap.size) (hsp : ∀ x ∈ ps, sp x.block = true) : DataW.Trod enc Tryz.prog W' 0 sp true t v d ps :=
  WideElems.Trod_stays laidOut hr hrow h (fun x hx => hb.same (hlt x hx)) hsp
section
variable {H : Type} {enc : TypeId × Value → H} {P : Program}
theorem post_of_below {f : Func} {s : ChangeSpec} {apart fresh handsOn again : Bool} {W W' : World} {args : Array Value} {v : Value} {ds gs : List (DataW H)} {before pa pv : List MemPlace}
    (hW : DataW.Whole enc P f.params.toList s.vars apart W args.toList ds gs before)
    (hres : ∀ (b : Nat) (sp : Nat → Bool) (hd : Bool), DataW.TrodAll enc P W' b sp hd f.resultTypes.toList (v.resultList f.resultTypes.size) (s.fn H (ds ++ gs)).results [])
    (hargs : DataW.TrodAll enc P W' 0 (fun b => decide (b < W.heap.size)) true f.params.toList args.toList (s.fn H (ds ++ gs)).args pa)
    (hargs2 : DataW.TrodAll enc P W' 0 (fun _ => true) true f.params.toList args.toList (s.fn H (ds ++ gs)).args pa)
    (hvars : ∀ sp : Nat → Bool, DataW.TrodVars enc P W' sp s.vars (s.fn H (ds ++ gs)).vars pv)
    (hps : before = pa ++ pv) (hb : Go.RowKit.Below W.heap.size W W')
    (hok : ∀ (j : Nat) (t : TypeId) (r : Value), f.resultTypes[j]? = some t → (v.resultList f.resultTypes.size)[j]? = some r → Value.okWide P W' .any 0 t r) :
    s.post enc P f apart fresh handsOn again W args v W' := by
  have hlt : ∀ p ∈ before, p.block < W.heap.size := fun p hp => hW.lt p hp
  refine ⟨ds, gs, before, [], pa, pv, hW, hres _ _ _, hargs, hvars _, World.keptBut_mono (fun p hp => ⟨hp, ?_⟩) (hb.frame (· ∈ before)), fun _ => ?_⟩
  · rw [hps, List.mem_append] at hp
    exact Or.inr hp
  · obtain ⟨_, _, _, _, _, hz, hn⟩ := hW
    refine ⟨hok, _, _, ([] ++ pa) ++ pv, ⟨[] ++ pa, pv, trodAll_append hargs2 (hres _ _ _), hvars _, rfl, ?_, ?_⟩, ?_⟩
    · intro b off hp
      have hin : MemPlace.cell b off ∈ before := by rw [hps]; simpa using hp
      rw [hb.frozen (hlt _ hin)]
      exact hz b off hin
    · intro ha
      have := hn ha
      rw [hps] at this
      simpa using this
    · intro p hp _
      rw [hps]
      simpa using hp
end
end Go.Proofs.YtnldlakcopbpcaaGreatDoor
