/- attrs.Sorted and the reference's Sorted: both the one row in order. -/
import Derived.Test.YtkmioljfjjmcpaaSortedB
