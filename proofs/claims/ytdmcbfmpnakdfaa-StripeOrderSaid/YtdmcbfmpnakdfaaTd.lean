/- The types that the walks of the stripe meet. -/
import Derived.Test.YtdmcbfmpnakdfaaTc
namespace Go.Proofs.Ytdmcbfmpnakdfaa.Eng.St
open Go Go.Proofs
def td79 : TD := ⟨.ptr 108, 1, 8, .sc (.raw (.pointer none))⟩
theorem td79Ok : TDOk Try.prog 79 td79 := .of Try.underlying79 rfl (by kernel_rfl) (fun ρ => by kernel_rfl) (by kernel_rfl)
def td108 : TD := ⟨.st [(0, 22), (1, 23)], 2, 48, .agg [.one (.raw (.slice none 0 0)), .one (.raw (.slice none 0 0))]⟩
theorem td108Ok : TDOk Try.prog 108 td108 := .of Try.underlying108 ⟨_, rfl, rfl⟩ (by kernel_rfl) (fun ρ => by kernel_rfl) (by kernel_rfl)
def td113 : TD := ⟨.fn, 1, 8, .sc (.raw (.nilFunc))⟩
theorem td113Ok : TDOk Try.prog 113 td113 := .of Try.underlying113 ⟨_, _, _, rfl⟩ (by kernel_rfl) (fun ρ => by kernel_rfl) (by kernel_rfl)
def td141 : TD := ⟨.fn, 1, 8, .sc (.raw (.nilFunc))⟩
theorem td141Ok : TDOk Try.prog 141 td141 := .of Try.underlying141 ⟨_, _, _, rfl⟩ (by kernel_rfl) (fun ρ => by kernel_rfl) (by kernel_rfl)
def td78 : TD := ⟨.slice 83, 1, 24, .sc (.raw (.slice none 0 0))⟩
theorem td78Ok : TDOk Try.prog 78 td78 := .of Try.underlying78 rfl (by kernel_rfl) (fun ρ => by kernel_rfl) (by kernel_rfl)
def td83 : TD := ⟨.st [(0, 3), (1, 3), (2, 34)], 66, 80, .agg [.one (.raw (.int .i64 0)), .one (.raw (.int .i64 0)), .byt 64 (zs 64)]⟩
theorem td83Ok : TDOk Try.prog 83 td83 := .of Try.underlying83 ⟨_, rfl, rfl⟩ (by kernel_rfl) (fun ρ => by kernel_rfl) (by kernel_rfl)
def td87 : TD := ⟨.arr 3 5, 3, 3, .agg [.byt 3 (zs 3)]⟩
theorem td87Ok : TDOk Try.prog 87 td87 := .of Try.underlying87 rfl (by kernel_rfl) (fun ρ => by kernel_rfl) (by kernel_rfl)
def td92 : TD := ⟨.ptr 105, 1, 8, .sc (.raw (.pointer none))⟩
theorem td92Ok : TDOk Try.prog 92 td92 := .of Try.underlying92 rfl (by kernel_rfl) (fun ρ => by kernel_rfl) (by kernel_rfl)
def td105 : TD := ⟨.st [(0, 22), (1, 103)], 2, 48, .agg [.one (.raw (.slice none 0 0)), .one (.raw (.slice none 0 0))]⟩
theorem td105Ok : TDOk Try.prog 105 td105 := .of Try.underlying105 ⟨_, rfl, rfl⟩ (by kernel_rfl) (fun ρ => by kernel_rfl) (by kernel_rfl)
def td103 : TD := ⟨.slice 4, 1, 24, .sc (.raw (.slice none 0 0))⟩
theorem td103Ok : TDOk Try.prog 103 td103 := .of Try.underlying103 rfl (by kernel_rfl) (fun ρ => by kernel_rfl) (by kernel_rfl)
def td44 : TD := ⟨.slice 5, 1, 24, .sc (.raw (.slice none 0 0))⟩
theorem td44Ok : TDOk Try.prog 44 td44 := .of Try.underlying44 rfl (by kernel_rfl) (fun ρ => by kernel_rfl) (by kernel_rfl)
def tab : Tab := [(3, td3), (4, td4), (5, td5), (25, td25), (34, td34), (22, td22), (23, td23), (39, td39), (150, td150), (79, td79), (108, td108), (113, td113), (141, td141), (78, td78), (83, td83), (87, td87), (92, td92), (105, td105), (103, td103), (44, td44)]
theorem tabOk : TabOk Try.prog tab := tab_cons td3Ok (tab_cons td4Ok (tab_cons td5Ok (tab_cons td25Ok (tab_cons td34Ok (tab_cons td22Ok (tab_cons td23Ok (tab_cons td39Ok (tab_cons td150Ok (tab_cons td79Ok (tab_cons td108Ok (tab_cons td113Ok (tab_cons td141Ok (tab_cons td78Ok (tab_cons td83Ok (tab_cons td87Ok (tab_cons td92Ok (tab_cons td105Ok (tab_cons td103Ok (tab_cons td44Ok (tab_nil))))))))))))))))))))
end Go.Proofs.Ytdmcbfmpnakdfaa.Eng.St
