/- Contract: script.Same (printed by gen_same.py). -/
import Derived.Test.YtnldlakcopbpcaaGreatDoorSameA
import Derived.Test.YtnldlakcopbpcaaGreatDoorSameB
import Derived.Test.YtnldlakcopbpcaaGreatDoorSameC
import Derived.Test.YtnldlakcopbpcaaGreatDoorSameD
import Derived.Test.YtnldlakcopbpcaaGreatDoorSameE
import Derived.Test.YtnldlakcopbpcaaGreatDoorSameF
import Derived.Test.YtnldlakcopbpcaaGreatDoorSameG
import Derived.Test.YtnldlakcopbpcaaGreatDoorSameH
import Derived.Test.YtnldlakcopbpcaaGreatDoorSameI
import Derived.Test.YtnldlakcopbpcaaGreatDoorSameJ
import Derived.Test.YtnldlakcopbpcaaGreatDoorSameK
namespace Go.Proofs.YtnldlakcopbpcaaGreatDoor
open Go.RowKit Go.Lib

theorem same_any (a a' : ActD) (vb vm vb' vm' : Value) (w : World) (ok : ActOk a) (ok' : ActOk a') (hV : ActV w a (.agg (actCells a vb vm))) (hV' : ActV w a' (.agg (actCells a' vb' vm'))) :
    Calls Tryz.prog 10 #[.agg (actCells a vb vm), .agg (actCells a' vb' vm')] w (SamePost a a' w) := by
  by_cases h0 : a.kind = a'.kind
  case neg => exact same_0 a a' vb vm vb' vm' w ok ok' hV hV' h0
  by_cases h1 : a.thread = a'.thread
  case neg => exact same_1 a a' vb vm vb' vm' w ok ok' hV hV' h0 h1
  by_cases h2 : a.n = a'.n
  case neg => exact same_2 a a' vb vm vb' vm' w ok ok' hV hV' h0 h1 h2
  by_cases h3 : a.marks = a'.marks
  case neg => exact same_3 a a' vb vm vb' vm' w ok ok' hV hV' h0 h1 h2 h3
  by_cases h4 : a.opk = a'.opk
  case neg => exact same_4 a a' vb vm vb' vm' w ok ok' hV hV' h0 h1 h2 h3 h4
  by_cases h5 : a.path = a'.path
  case neg => exact same_5 a a' vb vm vb' vm' w ok ok' hV hV' h0 h1 h2 h3 h4 h5
  by_cases h6 : a.dest = a'.dest
  case neg => exact same_6 a a' vb vm vb' vm' w ok ok' hV hV' h0 h1 h2 h3 h4 h5 h6
  by_cases h7 : a.at_ = a'.at_
  case neg => exact same_7 a a' vb vm vb' vm' w ok ok' hV hV' h0 h1 h2 h3 h4 h5 h6 h7
  by_cases h8 : a.opn = a'.opn
  case neg => exact same_8 a a' vb vm vb' vm' w ok ok' hV hV' h0 h1 h2 h3 h4 h5 h6 h7 h8
  by_cases h9 : a.bytes = a'.bytes
  case neg => exact same_9 a a' vb vm vb' vm' w ok ok' hV hV' h0 h1 h2 h3 h4 h5 h6 h7 h8 h9
  exact same_10 a a' vb vm vb' vm' w ok ok' hV hV' h0 h1 h2 h3 h4 h5 h6 h7 h8 h9
end Go.Proofs.YtnldlakcopbpcaaGreatDoor
