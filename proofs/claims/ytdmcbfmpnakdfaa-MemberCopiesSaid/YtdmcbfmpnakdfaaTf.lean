/- The types of the document's members. -/
import Derived.Test.YtdmcbfmpnakdfaaTb
namespace Go.Proofs.Ytdmcbfmpnakdfaa.Eng.Rm
open Go Go.Proofs
def td63 : TD := ⟨.ptr 133, 1, 8, .sc (.raw (.pointer none))⟩
theorem td63Ok : TDOk Try.prog 63 td63 := .of Try.underlying63 rfl (by kernel_rfl) (fun ρ => by kernel_rfl) (by kernel_rfl)
def td130 : TD := ⟨.slice 154, 1, 24, .sc (.raw (.slice none 0 0))⟩
theorem td130Ok : TDOk Try.prog 130 td130 := .of Try.underlying130 rfl (by kernel_rfl) (fun ρ => by kernel_rfl) (by kernel_rfl)
def td131 : TD := ⟨.slice 130, 1, 24, .sc (.raw (.slice none 0 0))⟩
theorem td131Ok : TDOk Try.prog 131 td131 := .of Try.underlying131 rfl (by kernel_rfl) (fun ρ => by kernel_rfl) (by kernel_rfl)
def td133 : TD := ⟨.st [(0, 3), (1, 130), (2, 130), (3, 131), (4, 4), (5, 4)], 6, 88, .agg [.one (.raw (.int .i64 0)), .one (.raw (.slice none 0 0)), .one (.raw (.slice none 0 0)), .one (.raw (.slice none 0 0)), .one (.raw (.bool false)), .one (.raw (.bool false))]⟩
theorem td133Ok : TDOk Try.prog 133 td133 := .of Try.underlying133 ⟨_, rfl, rfl⟩ (by kernel_rfl) (fun ρ => by kernel_rfl) (by kernel_rfl)
def td154 : TD := ⟨.st [(0, 3), (1, 34)], 65, 72, .agg [.one (.raw (.int .i64 0)), .byt 64 (zs 64)]⟩
theorem td154Ok : TDOk Try.prog 154 td154 := .of Try.underlying154 ⟨_, rfl, rfl⟩ (by kernel_rfl) (fun ρ => by kernel_rfl) (by kernel_rfl)
def td9 : TD := ⟨.str, 1, 16, .sc (.raw (.string ⟨#[]⟩))⟩
theorem td9Ok : TDOk Try.prog 9 td9 := .of Try.underlying9 rfl (by kernel_rfl) (fun ρ => by kernel_rfl) (by kernel_rfl)
def tab : Tab := [(3, td3), (4, td4), (5, td5), (25, td25), (34, td34), (45, td45), (77, td77), (73, td73), (74, td74), (127, td127), (44, td44), (113, td113), (75, td75), (43, td43), (57, td57), (139, td139), (63, td63), (130, td130), (131, td131), (133, td133), (154, td154), (9, td9)]
theorem tabOk : TabOk Try.prog tab := tab_cons td3Ok (tab_cons td4Ok (tab_cons td5Ok (tab_cons td25Ok (tab_cons td34Ok (tab_cons td45Ok (tab_cons td77Ok (tab_cons td73Ok (tab_cons td74Ok (tab_cons td127Ok (tab_cons td44Ok (tab_cons td113Ok (tab_cons td75Ok (tab_cons td43Ok (tab_cons td57Ok (tab_cons td139Ok (tab_cons td63Ok (tab_cons td130Ok (tab_cons td131Ok (tab_cons td133Ok (tab_cons td154Ok (tab_cons td9Ok (tab_nil))))))))))))))))))))))
end Go.Proofs.Ytdmcbfmpnakdfaa.Eng.Rm
