import Derived.Test.YthiipifjdfmblaaGreatDoorBh
set_option linter.all false
set_option maxRecDepth 1000000
namespace Go.Hf
section
variable[Tok]
theorem aAj(n:Nat):IX 0 7 n (bB EQ 300 8 [.V .u32 18446744073709551616] 0 .nil)=true:=by kernel_rfl
theorem ayR(n:Nat):IX 7 7 n (bB EQ 300 8 [.V .u32 18446744073709551616] 0 .nil)=true:=by kernel_rfl
theorem azY(n:Nat):IX 14 7 n (bB EQ 300 8 [.V .u32 18446744073709551616] 0 .nil)=true:=by kernel_rfl
end
end Go.Hf
