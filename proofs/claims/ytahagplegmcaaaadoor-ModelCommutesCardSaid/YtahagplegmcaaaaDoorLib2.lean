/- More plain lemmas on worlds that grow. -/
import Derived.Test.YtahagplegmcaaaaDoorLib
namespace Go.Xt
open Go.RowKit
theorem Nw.drewd {w b d : World} (h : Nw w (b.ext none d)) : Nw w (b.ext none (ddrew b none d)) := by rw [← drew_ext]; exact h.drew
theorem Nw.drewdN {w b d : World} {n : Nat} (h : Nw w (b.ext none d)) : Nw w (b.ext none (ddrewN b none d n)) := by rw [← drewN_ext]; exact h.drewN n
/-- A row of the call's own, over a store of two cells into an older box. -/
theorem own_upd2 {Y Z : World} {g base : Nat} {u0 u1 : Value} {e : TypeId} {size : Nat} {v : Value} {n : Nat} {xs : List Value}
    (hown : Y.ownsRow base e size v n xs) (hg : g < base) (hZ : (Y.setCell ⟨g, 0, none⟩ u0).setCell ⟨g, 1, none⟩ u1 = Z) : Z.ownsRow base e size v n xs := by
  subst hZ
  exact ownsRow_setCell_below (ownsRow_setCell_below hown hg u0) hg u1
end Go.Xt
