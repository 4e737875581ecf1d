/- script.one: what it returns: the act of a line. -/
import Derived.Test.YtkcnmfeenhpjpaaDoorGivenB
import Derived.Test.YtkcnmfeenhpjpaaDoorMay
set_option linter.unusedVariables false
set_option linter.unusedSimpArgs false
namespace Go.Proofs.YtkcnmfeenhpjpaaDoor
open Go.RowKit Go.Proofs.YtkcnmfeenhpjpaaDoorW.PrintWords Go.Proofs.YtkcnmfeenhpjpaaDoorW.PrintLast Go.Proofs.YtkcnmfeenhpjpaaDoorW.PrintMore
abbrev sPower : ByteArray := ⟨#[112, 111, 119, 101, 114, 32]⟩
abbrev sFlush : ByteArray := ⟨#[102, 108, 117, 115, 104, 32]⟩
/-- What is made of the kind, the head and the rest of a line. -/
def script_one.g (kind : Int) (head rest : ByteArray) (ok : Bool) : Option (Int × Int × Int × ByteArray × Int) :=
  (num_Parse.f head).bind fun p =>
    if ok = true then
      if p.2 = true then
        if kind = 1 then (script_may.f 1 p.1 0 rest).bind fun m => if m = true then some (1, p.1, 0, rest, 0) else some (0, 0, 0, ⟨#[]⟩, 1)
        else (script_may.f kind 0 p.1 ⟨#[]⟩).bind fun m => if m = true then some (kind, 0, p.1, ⟨#[]⟩, 0) else some (0, 0, 0, ⟨#[]⟩, 1)
      else some (0, 0, 0, ⟨#[]⟩, 2)
    else some (0, 0, 0, ⟨#[]⟩, 2)
def script_one.f (a0 : ByteArray) : Option (Int × Int × Int × ByteArray × Int) :=
  if a0.toList = ([111, 112, 101, 110] : List UInt8) then some (3, 0, 0, ⟨#[]⟩, 0)
  else if a0.toList = ([99, 104, 101, 99, 107, 112, 111, 105, 110, 116] : List UInt8) then some (5, 0, 0, ⟨#[]⟩, 0)
  else (strings_Cut.f a0 ⟨#[58, 32]⟩).bind fun c =>
    if Lib.hasPrefix a0.data.toList sPower.data.toList = true then script_one.g 2 ⟨(Lib.trimPrefix a0.data.toList sPower.data.toList).toArray⟩ c.2.1 true
    else if Lib.hasPrefix a0.data.toList sFlush.data.toList = true then script_one.g 4 ⟨(Lib.trimPrefix a0.data.toList sFlush.data.toList).toArray⟩ c.2.1 true
    else script_one.g 1 c.1 c.2.1 c.2.2
end Go.Proofs.YtkcnmfeenhpjpaaDoor
