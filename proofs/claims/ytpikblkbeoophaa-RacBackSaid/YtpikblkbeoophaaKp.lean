/- Which temporaries are kept between regions, function by function: a table by program, on which nothing leans but that runs come to an end. -/
import Derived.Test.YtpikblkbeoophaaZFast
import Derived.Test.YtpikblkbeoophaaProg
import Derived.KernelRfl
namespace Go.Proofs.Ytpikblkbeoophaa
open Go Go.Zf
def kpL : List (List Nat) := [[], [], [], [0, 2, 3, 4, 5, 6, 7], [0, 1, 4, 5, 6, 7, 8, 9, 10, 11, 12, 13, 14, 15, 17], [0, 2, 3, 4, 5, 6, 7, 8, 9, 10, 11, 12], [0, 1, 4, 5, 6, 7, 8, 9, 11], [0, 1, 2, 6, 7, 8, 9, 10, 11, 12, 13, 15, 17, 19], [0, 1, 4, 5, 6, 7, 8, 9, 10, 11, 13, 15], [0, 1, 2, 3, 4, 5, 6, 7, 8, 9, 10, 11, 12, 14, 15, 17, 18, 19, 20, 22, 23, 24, 25, 26, 27, 29], [0], [0], [0, 1, 2, 6, 7, 8], [0, 1, 2, 6, 7, 8], [0, 2, 3, 4, 24], [0, 1, 4, 5], [0, 2, 3, 4, 5], [0, 1, 2, 3, 4, 5, 6, 7, 8, 9, 10, 11], [0, 2, 3], [0, 2, 3, 8], [0, 2, 3, 4], [0, 2, 3], [0, 2, 3], [0, 1, 3, 4, 5], [0, 1, 2, 6, 7, 8, 9], [0, 1, 2, 6, 7, 9, 10], [0, 1, 2, 3], [0, 1, 4], [0, 1, 2, 6, 7, 8], [0], [0, 1, 2, 6, 7, 8], [0, 2], [0, 2], [0], [0, 2, 3], [0, 2], [0, 2, 28], [], [], [], [], [], [], [], [], [], [], [], [], [], [], [], [], []]
def kp (f : FuncId) : List Nat := kpL.getD f []
theorem mixed : Try.prog.follows .mixedOrders = true := by kernel_rfl
end Go.Proofs.Ytpikblkbeoophaa
