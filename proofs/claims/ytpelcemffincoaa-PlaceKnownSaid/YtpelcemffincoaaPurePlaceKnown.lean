/- The examples of the chapter hold: a closed statement, no condition. -/
import Derived.Test.YtpelcemffincoaaPPlaceKnownx3
import Derived.Test.YtpelcemffincoaaPl
namespace Go.Proofs.Ytpelcemffincoaa.BrPlaceKnown
open Go.RowKit Go.Proofs.Ytpelcemffincoaa.PPlaceKnown Go.Proofs.YtpelcemffincoaaW.PrintWords Go.Proofs.YtpelcemffincoaaW.PrintLast Go.Proofs.YtpelcemffincoaaW.PrintMore Go.Proofs.Ytpelcemffincoaa.Pl

end Go.Proofs.Ytpelcemffincoaa.BrPlaceKnown
namespace Go.Proofs.Ytpelcemffincoaa.Pure
open Go.RowKit Go.Proofs.Ytpelcemffincoaa.PPlaceKnown Go.Proofs.Ytpelcemffincoaa.BrPlaceKnown Go.Proofs.Ytpelcemffincoaa.Pl
theorem PlaceKnown : casematelaw15_PlaceKnown.Pure := ⟨30, by decide +kernel⟩
end Go.Proofs.Ytpelcemffincoaa.Pure
