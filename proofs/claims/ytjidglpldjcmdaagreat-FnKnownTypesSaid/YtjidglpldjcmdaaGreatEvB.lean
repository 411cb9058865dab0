/-
Two tables' functions are the same: to decide it.
-/
import Derived.Test.YtjidglpldjcmdaaGreatEvO
import Derived.Test.YtjidglpldjcmdaaGreatEvI
set_option linter.unusedVariables false
set_option linter.unusedSimpArgs false
namespace Go.Ev
open Go

deriving instance DecidableEq for S
mutual
def decV : (a b : V) → Decidable (a = b)
  | .o, .o => isTrue rfl
  | .c a, .c b => if h : a = b then isTrue (by rw [h]) else isFalse (by simp [h])
  | .a a, .a b => if h : a = b then isTrue (by rw [h]) else isFalse (by simp [h])
  | .t a, .t b => match decVs a b with | isTrue h => isTrue (by rw [h]) | isFalse h => isFalse (by simp [h])
  | .o, .c _ => isFalse (by simp) | .o, .a _ => isFalse (by simp) | .o, .t _ => isFalse (by simp)
  | .c _, .o => isFalse (by simp) | .c _, .a _ => isFalse (by simp) | .c _, .t _ => isFalse (by simp)
  | .a _, .o => isFalse (by simp) | .a _, .c _ => isFalse (by simp) | .a _, .t _ => isFalse (by simp)
  | .t _, .o => isFalse (by simp) | .t _, .c _ => isFalse (by simp) | .t _, .a _ => isFalse (by simp)
def decVs : (a b : List V) → Decidable (a = b)
  | [], [] => isTrue rfl
  | [], _ :: _ => isFalse (by simp)
  | _ :: _, [] => isFalse (by simp)
  | a :: l, b :: m => match decV a b with
    | isTrue h1 => match decVs l m with | isTrue h2 => isTrue (by rw [h1, h2]) | isFalse h2 => isFalse (by simp [h2])
    | isFalse h1 => isFalse (by simp [h1])
end
instance : DecidableEq V := decV
deriving instance DecidableEq for O
deriving instance DecidableEq for W
deriving instance DecidableEq for A
deriving instance DecidableEq for M
deriving instance DecidableEq for R
deriving instance DecidableEq for MO
deriving instance DecidableEq for Stp
deriving instance DecidableEq for MC
deriving instance DecidableEq for MRes
deriving instance DecidableEq for MFn
deriving instance DecidableEq for HS
end Go.Ev
