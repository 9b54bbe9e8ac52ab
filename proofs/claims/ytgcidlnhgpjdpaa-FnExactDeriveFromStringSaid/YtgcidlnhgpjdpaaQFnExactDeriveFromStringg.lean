/- The kinds of the arguments of the law FnExactDeriveFromString: what is read as data at these types is of the kinds that the printed functions take. No conditions. -/
import Derived.Test.YtgcidlnhgpjdpaaOpens
import Derived.Test.YtgcidlnhgpjdpaaQFnExactDeriveFromStringx0
namespace Go.Proofs.Ytgcidlnhgpjdpaa.QFnExactDeriveFromString
open Go.RowKit Go.Proofs.YtgcidlnhgpjdpaaW.PrintWords Go.Proofs.Ytgcidlnhgpjdpaa.Opens
end Go.Proofs.Ytgcidlnhgpjdpaa.QFnExactDeriveFromString
