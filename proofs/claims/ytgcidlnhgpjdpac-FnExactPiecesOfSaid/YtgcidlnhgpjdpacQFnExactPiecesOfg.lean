/- The kinds of the arguments of the law FnExactPiecesOf: what is read as data at these types is of the kinds that the printed functions take. No conditions. -/
import Derived.Test.YtgcidlnhgpjdpacOpens
import Derived.Test.YtgcidlnhgpjdpacQFnExactPiecesOfx0
namespace Go.Proofs.Ytgcidlnhgpjdpac.QFnExactPiecesOf
open Go.RowKit Go.Proofs.YtgcidlnhgpjdpacW.PrintWords Go.Proofs.Ytgcidlnhgpjdpac.Opens
end Go.Proofs.Ytgcidlnhgpjdpac.QFnExactPiecesOf
