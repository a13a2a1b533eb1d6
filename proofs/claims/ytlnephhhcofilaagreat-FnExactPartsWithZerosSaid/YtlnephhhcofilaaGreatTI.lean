/- Contracts of functions, facts of types, or the plain law behind one statement (own work): TI. Conditions: those told in each theorem. -/
import Derived.Test.YtlnephhhcofilaaGreatTF
set_option linter.all false
