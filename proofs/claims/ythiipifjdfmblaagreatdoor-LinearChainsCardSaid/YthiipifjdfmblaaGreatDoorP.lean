/- The terms and polynomials of the chains; tables of functions. Made by a program: each contract comes of a run of the function's body. -/
import Derived.Test.YthiipifjdfmblaaGreatDoorNw
set_option linter.unusedVariables false
set_option linter.unusedSimpArgs false
namespace Go.Proofs.YthiipifjdfmblaaGreatDoor
open Go Go.Pf Go.RowKit
set_option maxRecDepth 100000

/-- The cells of a variable, of a constant, of a call of a function of the package lisp. -/
def vC (c : UInt8) : List PV := [I 1, S [117, 115, 101, 114], S [c], I 0, S [], S [], S [], S [], S [], nils, nils]
def cT (n : Int) : List PV := [I 2, S [], S [], I 1, D n, S [49], S [], S [], S [], nils, nils]
def aT (name : List UInt8) (args : List (List PV)) : List PV := [I 3, S [108, 105, 115, 112], S name, I 0, S [], S [], S [], S [], S [], nils, .lst 11 args]

/-- The literals of a chain: a strict step, a step, the last one. -/
def litS (i j : UInt8) (k : Int) : List PV := aT [110, 111, 116] [aT [60] [aT [98, 105, 110, 97, 114, 121, 45, 43] [cT k, vC i], vC j]]
def litN (i j : UInt8) (k : Int) : List PV := aT [60] [vC j, aT [98, 105, 110, 97, 114, 121, 45, 43] [cT k, vC i]]
def litL (m : UInt8) (d : Int) : List PV := aT [60] [aT [98, 105, 110, 97, 114, 121, 45, 43] [cT d, vC 97], vC m]

/-- The monomials of a polynomial of degree one: a constant, if it is not 0, and variables with their coefficients. -/
def pV (l : List (UInt8 × Int)) : List (List PV) := l.map fun p => nO p.2 ++ [.lst 11 [vC p.1]]
def pE (c : Int) (l : List (UInt8 × Int)) : List (List PV) := if c = 0 then pV l else (nO c ++ [nils]) :: pV l
theorem pE_nz {c : Int} (h : c ≠ 0) {l : List (UInt8 × Int)} : pE c l = (nO c ++ [nils]) :: pV l := by simp [pE, h]

theorem tk0 : TabOk Tryz.prog [] := trivial
def tb1 : List (Nat × FnR) := [(233, c233), (234, c234), (281, c281), (331, c331), (235, c235), (283, c283)]
theorem tk1 : TabOk Tryz.prog tb1 := ⟨ok233, ok234, ok281, ok331, ok235, ok283, trivial⟩
def tb2 : List (Nat × FnR) := [(184, c184), (236, c236), (284, c284), (335, c335), (237, c237), (285, c285), (238, c238), (286, c286), (239, c239)]
theorem tk2 : TabOk Tryz.prog tb2 := ⟨ok184, ok236, ok284, ok335, ok237, ok285, ok238, ok286, ok239, trivial⟩
def tb3 : List (Nat × FnR) := [(205, c205), (262, c262), (184, c184), (236, c236), (284, c284), (335, c335), (237, c237), (285, c285), (238, c238), (286, c286), (239, c239)]
theorem tk3 : TabOk Tryz.prog tb3 := ⟨ok205, ok262, ok184, ok236, ok284, ok335, ok237, ok285, ok238, ok286, ok239, trivial⟩
def tb4 : List (Nat × FnR) := [(184, c184), (236, c236), (284, c284), (335, c335), (238, c238), (286, c286), (239, c239)]
theorem tk4 : TabOk Tryz.prog tb4 := ⟨ok184, ok236, ok284, ok335, ok238, ok286, ok239, trivial⟩
def tb5 : List (Nat × FnR) := [(184, c184), (236, c236), (284, c284), (335, c335), (238, c238), (286, c286)]
theorem tk5 : TabOk Tryz.prog tb5 := ⟨ok184, ok236, ok284, ok335, ok238, ok286, trivial⟩
def tb6 : List (Nat × FnR) := [(98, c98), (99, c99), (154, c154), (204, c204), (184, c184), (236, c236), (284, c284), (335, c335), (238, c238), (286, c286), (239, c239), (156, c156), (205, c205), (262, c262), (155, c155), (237, c237), (285, c285)]
theorem tk6 : TabOk Tryz.prog tb6 := ⟨ok98, ok99, ok154, ok204, ok184, ok236, ok284, ok335, ok238, ok286, ok239, ok156, ok205, ok262, ok155, ok237, ok285, trivial⟩
def tb7 : List (Nat × FnR) := [(98, c98), (99, c99), (154, c154), (204, c204), (184, c184), (236, c236), (284, c284), (335, c335), (238, c238), (286, c286), (239, c239), (156, c156), (205, c205), (262, c262), (237, c237), (155, c155), (285, c285)]
theorem tk7 : TabOk Tryz.prog tb7 := ⟨ok98, ok99, ok154, ok204, ok184, ok236, ok284, ok335, ok238, ok286, ok239, ok156, ok205, ok262, ok237, ok155, ok285, trivial⟩
def tb8 : List (Nat × FnR) := [(214, c214), (273, c273), (207, c207), (328, c328)]
theorem tk8 : TabOk Tryz.prog tb8 := ⟨ok214, ok273, ok207, ok328, trivial⟩
def tb9 : List (Nat × FnR) := [(214, c214), (273, c273)]
theorem tk9 : TabOk Tryz.prog tb9 := ⟨ok214, ok273, trivial⟩
def tb10 : List (Nat × FnR) := [(242, c242), (244, c244), (243, c243), (228, c228), (227, c227)]
theorem tk10 : TabOk Tryz.prog tb10 := ⟨ok242, ok244, ok243, ok228, ok227, trivial⟩
def tb11 : List (Nat × FnR) := [(259, c259), (307, c307), (141, c141), (260, c260), (308, c308), (261, c261), (65, c65), (251, c251), (292, c292), (172, c172), (221, c221), (71, c71)]
theorem tk11 : TabOk Tryz.prog tb11 := ⟨ok259, ok307, ok141, ok260, ok308, ok261, ok65, ok251, ok292, ok172, ok221, ok71, trivial⟩
def tb12 : List (Nat × FnR) := [(110, c110), (175, c175), (176, c176)]
theorem tk12 : TabOk Tryz.prog tb12 := ⟨ok110, ok175, ok176, trivial⟩
def tb13 : List (Nat × FnR) := [(111, c111), (176, c176), (110, c110), (175, c175)]
theorem tk13 : TabOk Tryz.prog tb13 := ⟨ok111, ok176, ok110, ok175, trivial⟩
def tb14 : List (Nat × FnR) := [(85, c85), (71, c71), (108, c108), (173, c173), (110, c110), (175, c175), (222, c222), (44, c44), (111, c111), (43, c43), (176, c176)]
theorem tk14 : TabOk Tryz.prog tb14 := ⟨ok85, ok71, ok108, ok173, ok110, ok175, ok222, ok44, ok111, ok43, ok176, trivial⟩
def tb15 : List (Nat × FnR) := [(85, c85), (71, c71), (108, c108), (173, c173), (110, c110), (175, c175), (222, c222), (44, c44), (111, c111), (176, c176), (43, c43)]
theorem tk15 : TabOk Tryz.prog tb15 := ⟨ok85, ok71, ok108, ok173, ok110, ok175, ok222, ok44, ok111, ok176, ok43, trivial⟩
def tb16 : List (Nat × FnR) := [(85, c85), (71, c71), (108, c108), (173, c173), (222, c222), (110, c110), (175, c175), (44, c44), (111, c111), (43, c43), (176, c176)]
theorem tk16 : TabOk Tryz.prog tb16 := ⟨ok85, ok71, ok108, ok173, ok222, ok110, ok175, ok44, ok111, ok43, ok176, trivial⟩
def tb17 : List (Nat × FnR) := [(85, c85), (71, c71), (108, c108), (173, c173), (222, c222), (110, c110), (175, c175), (44, c44), (111, c111), (176, c176), (43, c43)]
theorem tk17 : TabOk Tryz.prog tb17 := ⟨ok85, ok71, ok108, ok173, ok222, ok110, ok175, ok44, ok111, ok176, ok43, trivial⟩
def tb18 : List (Nat × FnR) := [(209, c209), (210, c210), (265, c265), (275, c275), (316, c316), (318, c318), (352, c352), (367, c367)]
theorem tk18 : TabOk Tryz.prog tb18 := ⟨ok209, ok210, ok265, ok275, ok316, ok318, ok352, ok367, trivial⟩
def tb19 : List (Nat × FnR) := [(209, c209), (216, c216), (275, c275), (316, c316), (318, c318), (352, c352), (367, c367)]
theorem tk19 : TabOk Tryz.prog tb19 := ⟨ok209, ok216, ok275, ok316, ok318, ok352, ok367, trivial⟩
def tb20 : List (Nat × FnR) := [(166, c166)]
theorem tk20 : TabOk Tryz.prog tb20 := ⟨ok166, trivial⟩
def tb21 : List (Nat × FnR) := [(218, c218)]
theorem tk21 : TabOk Tryz.prog tb21 := ⟨ok218, trivial⟩
def tb22 : List (Nat × FnR) := [(214, c214), (273, c273), (328, c328)]
theorem tk22 : TabOk Tryz.prog tb22 := ⟨ok214, ok273, ok328, trivial⟩
def tb23 : List (Nat × FnR) := [(205, c205), (262, c262), (184, c184), (236, c236), (284, c284), (335, c335), (238, c238), (286, c286), (239, c239)]
theorem tk23 : TabOk Tryz.prog tb23 := ⟨ok205, ok262, ok184, ok236, ok284, ok335, ok238, ok286, ok239, trivial⟩
def tb24 : List (Nat × FnR) := [(181, c181), (231, c231), (182, c182), (232, c232), (279, c279), (184, c184), (236, c236), (284, c284), (335, c335), (238, c238), (286, c286), (239, c239)]
theorem tk24 : TabOk Tryz.prog tb24 := ⟨ok181, ok231, ok182, ok232, ok279, ok184, ok236, ok284, ok335, ok238, ok286, ok239, trivial⟩
def tb25 : List (Nat × FnR) := [(122, c122), (187, c187)]
theorem tk25 : TabOk Tryz.prog tb25 := ⟨ok122, ok187, trivial⟩
def tb26 : List (Nat × FnR) := [(240, c240)]
theorem tk26 : TabOk Tryz.prog tb26 := ⟨ok240, trivial⟩
def tb27 : List (Nat × FnR) := [(121, c121), (185, c185), (122, c122), (187, c187)]
theorem tk27 : TabOk Tryz.prog tb27 := ⟨ok121, ok185, ok122, ok187, trivial⟩
def tb28 : List (Nat × FnR) := [(71, c71)]
theorem tk28 : TabOk Tryz.prog tb28 := ⟨ok71, trivial⟩
def tb29 : List (Nat × FnR) := [(110, c110)]
theorem tk29 : TabOk Tryz.prog tb29 := ⟨ok110, trivial⟩
def tb30 : List (Nat × FnR) := [(176, c176)]
theorem tk30 : TabOk Tryz.prog tb30 := ⟨ok176, trivial⟩
def tb31 : List (Nat × FnR) := [(65, c65), (68, c68)]
theorem tk31 : TabOk Tryz.prog tb31 := ⟨ok65, ok68, trivial⟩
def tb32 : List (Nat × FnR) := [(21, c21), (28, c28), (67, c67), (22, c22), (62, c62), (71, c71), (81, c81), (23, c23), (59, c59)]
theorem tk32 : TabOk Tryz.prog tb32 := ⟨ok21, ok28, ok67, ok22, ok62, ok71, ok81, ok23, ok59, trivial⟩
end Go.Proofs.YthiipifjdfmblaaGreatDoor
