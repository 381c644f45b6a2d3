import Derived.Test.YthiipifjdfmblaaGreatDoorBh
set_option linter.all false
set_option maxRecDepth 1000000
namespace Go.Hf
section
variable[Tok]
theorem aDG(n:Nat):IX 21 7 n (bB EQ 300 8 [.V .u32 18446744073709551616] 0 .nil)=true:=by kernel_rfl
theorem awC(n:Nat):IX 28 7 n (bB EQ 300 8 [.V .u32 18446744073709551616] 0 .nil)=true:=by kernel_rfl
end
end Go.Hf
