/- The kinds of the arguments of the law FnParts: what is read as data at these types is of the kinds that the printed functions take. No conditions. -/
import Derived.Test.YtlpfobakbgipbaaOpens
import Derived.Test.YtlpfobakbgipbaaQFnPartsx0
namespace Go.Proofs.Ytlpfobakbgipbaa.QFnParts
open Go.RowKit Go.Proofs.YtlpfobakbgipbaaW.PrintWords Go.Proofs.Ytlpfobakbgipbaa.Opens
end Go.Proofs.Ytlpfobakbgipbaa.QFnParts
