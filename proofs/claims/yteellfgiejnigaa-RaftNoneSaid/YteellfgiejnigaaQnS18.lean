/- The world from its beginning on: all events. -/
import Derived.Test.YteellfgiejnigaaQnS17
namespace Go.Proofs.Yteellfgiejnigaa.RS
set_option linter.unusedVariables false
section
variable {w : W} {B : Nat}
theorem Full.look1 (F : Full w B) {i : Nat} (hi : i < w.n) : Full (w.look1 i) B := by
  obtain ⟨n1, n7, G, nd, l, I, Z⟩ := F.small
  exact ⟨⟨n1, n7, G, nd, l, I.look1 hi, ⟨Z.log, Z.term⟩⟩, F.fm, F.mf⟩
theorem Full.look (F : Full w B) {i : Nat} (hi : i < w.n) : Look w i := by
  obtain ⟨_, _, G, nd, l, I, _⟩ := F.small
  exact I.look hi
end
end Go.Proofs.Yteellfgiejnigaa.RS
