/- The types that the walks meet. -/
import Derived.Test.YtdmcbfmpnakdfaaEn
import Derived.Test.YtdmcbfmpnakdfaaProg
namespace Go.Proofs.Ytdmcbfmpnakdfaa.Eng
open Go Go.Proofs
def zs (n : Nat) : List Nat := List.replicate n 0
def td3 : TD := ⟨.int .i64, 1, 8, .sc (.raw (.int .i64 0))⟩
theorem td3Ok : TDOk Try.prog 3 td3 := .of Try.underlying3 rfl (by kernel_rfl) (fun ρ => by kernel_rfl) (by kernel_rfl)
def td4 : TD := ⟨.bool, 1, 1, .sc (.raw (.bool false))⟩
theorem td4Ok : TDOk Try.prog 4 td4 := .of Try.underlying4 rfl (by kernel_rfl) (fun ρ => by kernel_rfl) (by kernel_rfl)
def td5 : TD := ⟨.int .u8, 1, 1, .sc (.raw (.int .u8 0))⟩
theorem td5Ok : TDOk Try.prog 5 td5 := .of Try.underlying5 rfl (by kernel_rfl) (fun ρ => by kernel_rfl) (by kernel_rfl)
def td25 : TD := ⟨.int .i64, 1, 8, .sc (.raw (.int .i64 0))⟩
theorem td25Ok : TDOk Try.prog 25 td25 := .of Try.underlying25 rfl (by kernel_rfl) (fun ρ => by kernel_rfl) (by kernel_rfl)
def td34 : TD := ⟨.arr 64 5, 64, 64, .agg [.byt 64 (zs 64)]⟩
theorem td34Ok : TDOk Try.prog 34 td34 := .of Try.underlying34 rfl (by kernel_rfl) (fun ρ => by kernel_rfl) (by kernel_rfl)
def td45 : TD := ⟨.ptr 77, 1, 8, .sc (.raw (.pointer none))⟩
theorem td45Ok : TDOk Try.prog 45 td45 := .of Try.underlying45 rfl (by kernel_rfl) (fun ρ => by kernel_rfl) (by kernel_rfl)
def td77 : TD := ⟨.st [(0, 3), (1, 73), (2, 73), (3, 74), (4, 75), (5, 4), (6, 4)], 7, 80, .agg [.one (.raw (.int .i64 0)), .one (.raw (.map none)), .one (.raw (.map none)), .one (.raw (.slice none 0 0)), .one (.raw (.slice none 0 0)), .one (.raw (.bool false)), .one (.raw (.bool false))]⟩
theorem td77Ok : TDOk Try.prog 77 td77 := .of Try.underlying77 ⟨_, rfl, rfl⟩ (by kernel_rfl) (fun ρ => by kernel_rfl) (by kernel_rfl)
def td73 : TD := ⟨.map 3 34, 1, 8, .sc (.raw (.map none))⟩
theorem td73Ok : TDOk Try.prog 73 td73 := .of Try.underlying73 rfl (by kernel_rfl) (fun ρ => by kernel_rfl) (by kernel_rfl)
def td74 : TD := ⟨.slice 127, 1, 24, .sc (.raw (.slice none 0 0))⟩
theorem td74Ok : TDOk Try.prog 74 td74 := .of Try.underlying74 rfl (by kernel_rfl) (fun ρ => by kernel_rfl) (by kernel_rfl)
def td127 : TD := ⟨.st [(0, 3), (1, 34)], 65, 72, .agg [.one (.raw (.int .i64 0)), .byt 64 (zs 64)]⟩
theorem td127Ok : TDOk Try.prog 127 td127 := .of Try.underlying127 ⟨_, rfl, rfl⟩ (by kernel_rfl) (fun ρ => by kernel_rfl) (by kernel_rfl)
def td44 : TD := ⟨.slice 5, 1, 24, .sc (.raw (.slice none 0 0))⟩
theorem td44Ok : TDOk Try.prog 44 td44 := .of Try.underlying44 rfl (by kernel_rfl) (fun ρ => by kernel_rfl) (by kernel_rfl)
def td113 : TD := ⟨.fn, 1, 8, .sc (.raw (.nilFunc))⟩
theorem td113Ok : TDOk Try.prog 113 td113 := .of Try.underlying113 ⟨_, _, _, rfl⟩ (by kernel_rfl) (fun ρ => by kernel_rfl) (by kernel_rfl)
def td75 : TD := ⟨.slice 73, 1, 24, .sc (.raw (.slice none 0 0))⟩
theorem td75Ok : TDOk Try.prog 75 td75 := .of Try.underlying75 rfl (by kernel_rfl) (fun ρ => by kernel_rfl) (by kernel_rfl)
def td43 : TD := ⟨.slice 57, 1, 24, .sc (.raw (.slice none 0 0))⟩
theorem td43Ok : TDOk Try.prog 43 td43 := .of Try.underlying43 rfl (by kernel_rfl) (fun ρ => by kernel_rfl) (by kernel_rfl)
def td57 : TD := ⟨.st [(0, 3), (1, 3), (2, 34), (66, 44), (67, 4)], 68, 112, .agg [.one (.raw (.int .i64 0)), .one (.raw (.int .i64 0)), .byt 64 (zs 64), .one (.raw (.slice none 0 0)), .one (.raw (.bool false))]⟩
theorem td57Ok : TDOk Try.prog 57 td57 := .of Try.underlying57 ⟨_, rfl, rfl⟩ (by kernel_rfl) (fun ρ => by kernel_rfl) (by kernel_rfl)
def td139 : TD := ⟨.fn, 1, 8, .sc (.raw (.nilFunc))⟩
theorem td139Ok : TDOk Try.prog 139 td139 := .of Try.underlying139 ⟨_, _, _, rfl⟩ (by kernel_rfl) (fun ρ => by kernel_rfl) (by kernel_rfl)
def tab : Tab := [(3, td3), (4, td4), (5, td5), (25, td25), (34, td34), (45, td45), (77, td77), (73, td73), (74, td74), (127, td127), (44, td44), (113, td113), (75, td75), (43, td43), (57, td57), (139, td139)]
theorem tabOk : TabOk Try.prog tab := tab_cons td3Ok (tab_cons td4Ok (tab_cons td5Ok (tab_cons td25Ok (tab_cons td34Ok (tab_cons td45Ok (tab_cons td77Ok (tab_cons td73Ok (tab_cons td74Ok (tab_cons td127Ok (tab_cons td44Ok (tab_cons td113Ok (tab_cons td75Ok (tab_cons td43Ok (tab_cons td57Ok (tab_cons td139Ok (tab_nil))))))))))))))))
theorem mixed : Try.prog.follows .mixedOrders = true := by kernel_rfl
end Go.Proofs.Ytdmcbfmpnakdfaa.Eng
