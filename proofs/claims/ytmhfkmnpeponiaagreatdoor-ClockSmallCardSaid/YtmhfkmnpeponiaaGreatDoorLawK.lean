/-
  ClockSmall, walked: the text that the card's text imports.
-/
import Derived.Test.YtmhfkmnpeponiaaGreatDoorLK4
set_option linter.unusedSimpArgs false
set_option linter.unusedVariables false
