/- The types that the walks meet. -/
import Derived.Test.YtdmcbfmpnakdfaaEn
import Derived.Test.YtdmcbfmpnakdfaaProg
namespace Go.Proofs.Ytdmcbfmpnakdfaa.Eng
open Go Go.Proofs
def zs (n : Nat) : List Nat := List.replicate n 0
def td3 : TD := ⟨.int .i64, 1, 8, .sc (.raw (.int .i64 0))⟩
theorem td3Ok : TDOk Try.prog 3 td3 := .of Try.underlying3 rfl (by kernel_rfl) (fun ρ => by kernel_rfl) (by kernel_rfl)
def td4 : TD := ⟨.bool, 1, 1, .sc (.raw (.bool false))⟩
theorem td4Ok : TDOk Try.prog 4 td4 := .of Try.underlying4 rfl (by kernel_rfl) (fun ρ => by kernel_rfl) (by kernel_rfl)
def td5 : TD := ⟨.int .u8, 1, 1, .sc (.raw (.int .u8 0))⟩
theorem td5Ok : TDOk Try.prog 5 td5 := .of Try.underlying5 rfl (by kernel_rfl) (fun ρ => by kernel_rfl) (by kernel_rfl)
def td25 : TD := ⟨.int .i64, 1, 8, .sc (.raw (.int .i64 0))⟩
theorem td25Ok : TDOk Try.prog 25 td25 := .of Try.underlying25 rfl (by kernel_rfl) (fun ρ => by kernel_rfl) (by kernel_rfl)
def td34 : TD := ⟨.arr 64 5, 64, 64, .agg [.byt 64 (zs 64)]⟩
theorem td34Ok : TDOk Try.prog 34 td34 := .of Try.underlying34 rfl (by kernel_rfl) (fun ρ => by kernel_rfl) (by kernel_rfl)
def td22 : TD := ⟨.slice 34, 1, 24, .sc (.raw (.slice none 0 0))⟩
theorem td22Ok : TDOk Try.prog 22 td22 := .of Try.underlying22 rfl (by kernel_rfl) (fun ρ => by kernel_rfl) (by kernel_rfl)
def td23 : TD := ⟨.slice 3, 1, 24, .sc (.raw (.slice none 0 0))⟩
theorem td23Ok : TDOk Try.prog 23 td23 := .of Try.underlying23 rfl (by kernel_rfl) (fun ρ => by kernel_rfl) (by kernel_rfl)
def td39 : TD := ⟨.st [(0, 34), (64, 34), (128, 34)], 192, 192, .agg [.byt 64 (zs 64), .byt 64 (zs 64), .byt 64 (zs 64)]⟩
theorem td39Ok : TDOk Try.prog 39 td39 := .of Try.underlying39 ⟨_, rfl, rfl⟩ (by kernel_rfl) (fun ρ => by kernel_rfl) (by kernel_rfl)
def td150 : TD := ⟨.int .u64, 1, 8, .sc (.raw (.int .u64 0))⟩
theorem td150Ok : TDOk Try.prog 150 td150 := .of Try.underlying150 rfl (by kernel_rfl) (fun ρ => by kernel_rfl) (by kernel_rfl)
def tab : Tab := [(3, td3), (4, td4), (5, td5), (25, td25), (34, td34), (22, td22), (23, td23), (39, td39), (150, td150)]
theorem tabOk : TabOk Try.prog tab := tab_cons td3Ok (tab_cons td4Ok (tab_cons td5Ok (tab_cons td25Ok (tab_cons td34Ok (tab_cons td22Ok (tab_cons td23Ok (tab_cons td39Ok (tab_cons td150Ok (tab_nil)))))))))
theorem mixed : Try.prog.follows .mixedOrders = true := by kernel_rfl
end Go.Proofs.Ytdmcbfmpnakdfaa.Eng
