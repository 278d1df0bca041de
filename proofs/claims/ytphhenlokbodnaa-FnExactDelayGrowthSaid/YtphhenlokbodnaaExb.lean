/- What the growths' laws import. -/
import Derived.Test.YtphhenlokbodnaaExa
import Derived.Test.YtphhenlokbodnaaLgr
namespace Go.Proofs.Ytphhenlokbodnaa
end Go.Proofs.Ytphhenlokbodnaa
