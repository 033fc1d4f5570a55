/- brazierref4.Ins as a table's line. Printed by gendec.py. -/
import Derived.Test.YtjoopjhimgdgdaazDecBackIDec
import Derived.Test.YtjoopjhimgdgdaazDecBackIRefW
namespace Go.Proofs.Ytjoopjhimgdgdaa.isa
open Go Go.Proofs Go.Proofs.YtjoopjhimgdgdaaRL
set_option linter.unusedVariables false
set_option linter.unusedSimpArgs false
def I7.cs (i : I7) : List V := [.raw (.int .i64 i.op), .raw (.int .i64 i.d), .raw (.int .i64 i.n), .raw (.int .i64 i.m), .raw (.int .i64 i.a), .raw (.int .i64 i.c), .raw (.int .i64 i.im)]
end Go.Proofs.Ytjoopjhimgdgdaa.isa
