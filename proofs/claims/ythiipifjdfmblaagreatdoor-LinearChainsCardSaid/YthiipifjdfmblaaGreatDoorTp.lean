/- The law of the chains, for all inputs, in the words of pure frames. -/
import Derived.Test.YthiipifjdfmblaaGreatDoorLd
import Derived.Test.YthiipifjdfmblaaGreatDoorLe
import Derived.Test.YthiipifjdfmblaaGreatDoorAw
import Derived.Test.YthiipifjdfmblaaGreatDoorCh
set_option linter.unusedVariables false
set_option linter.unusedSimpArgs false
namespace Go.Proofs.YthiipifjdfmblaaGreatDoor
open Go Go.Pf Go.RowKit
set_option maxRecDepth 100000

theorem RF_1_neg (f0 : Bool) (c : Int) (hc : -19 ≤ c ∧ c ≤ 19) (k0 : Int) (hk0 : -5 ≤ k0 ∧ k0 ≤ 5) (h : c - k0 < 0) : R 10 [.lst 11 [litF f0 97 98 k0, litL 98 c]] (.tup [.lst 7 [nO 1, nO 1], Bo true]) := by
  cases f0
  · exact rf_n_neg c hc k0 hk0 h
  · exact rf_s_neg c hc k0 hk0 h
theorem RF_1_pos (f0 : Bool) (c : Int) (hc : -19 ≤ c ∧ c ≤ 19) (k0 : Int) (hk0 : -5 ≤ k0 ∧ k0 ≤ 5) (h : 0 < c - k0) : R 10 [.lst 11 [litF f0 97 98 k0, litL 98 c]] (.tup [nils, Bo false]) := by
  cases f0
  · exact rf_n_pos c hc k0 hk0 h
  · exact rf_s_pos c hc k0 hk0 h
theorem RF_1_zt (f0 : Bool) (c : Int) (hc : -19 ≤ c ∧ c ≤ 19) (k0 : Int) (hk0 : -5 ≤ k0 ∧ k0 ≤ 5) (h : c - k0 = 0) (hf : (f0) = true) : R 10 [.lst 11 [litF f0 97 98 k0, litL 98 c]] (.tup [.lst 7 [nO 1, nO 1], Bo true]) := by
  cases f0
  · cases hf
  · exact rf_s_zt c hc k0 hk0 h
theorem RF_1_zf (f0 : Bool) (c : Int) (hc : -19 ≤ c ∧ c ≤ 19) (k0 : Int) (hk0 : -5 ≤ k0 ∧ k0 ≤ 5) (h : c - k0 = 0) (hf : (f0) = false) : R 10 [.lst 11 [litF f0 97 98 k0, litL 98 c]] (.tup [nils, Bo false]) := by
  cases f0
  · exact rf_n_zf c hc k0 hk0 h
  · cases hf
theorem RR_1_neg (f0 : Bool) (c : Int) (hc : -19 ≤ c ∧ c ≤ 19) (k0 : Int) (hk0 : -5 ≤ k0 ∧ k0 ≤ 5) (h : c - k0 < 0) : R 11 [.lst 11 [litF f0 97 98 k0, litL 98 c], .lst 7 [nO 1, nO 1]] (Bo true) := by
  cases f0
  · exact rr_n_neg c hc k0 hk0 h
  · exact rr_s_neg c hc k0 hk0 h
theorem RR_1_zt (f0 : Bool) (c : Int) (hc : -19 ≤ c ∧ c ≤ 19) (k0 : Int) (hk0 : -5 ≤ k0 ∧ k0 ≤ 5) (h : c - k0 = 0) (hf : (f0) = true) : R 11 [.lst 11 [litF f0 97 98 k0, litL 98 c], .lst 7 [nO 1, nO 1]] (Bo true) := by
  cases f0
  · cases hf
  · exact rr_s_zt c hc k0 hk0 h
theorem RF_2_neg (f0 f1 : Bool) (c : Int) (hc : -19 ≤ c ∧ c ≤ 19) (k0 : Int) (hk0 : -5 ≤ k0 ∧ k0 ≤ 5) (k1 : Int) (hk1 : -5 ≤ k1 ∧ k1 ≤ 5) (h : c - k0 - k1 < 0) : R 10 [.lst 11 [litF f0 97 98 k0, litF f1 98 99 k1, litL 99 c]] (.tup [.lst 7 [nO 1, nO 1, nO 1], Bo true]) := by
  cases f0 <;> cases f1
  · exact rf_nn_neg c hc k0 hk0 k1 hk1 h
  · exact rf_ns_neg c hc k0 hk0 k1 hk1 h
  · exact rf_sn_neg c hc k0 hk0 k1 hk1 h
  · exact rf_ss_neg c hc k0 hk0 k1 hk1 h
theorem RF_2_pos (f0 f1 : Bool) (c : Int) (hc : -19 ≤ c ∧ c ≤ 19) (k0 : Int) (hk0 : -5 ≤ k0 ∧ k0 ≤ 5) (k1 : Int) (hk1 : -5 ≤ k1 ∧ k1 ≤ 5) (h : 0 < c - k0 - k1) : R 10 [.lst 11 [litF f0 97 98 k0, litF f1 98 99 k1, litL 99 c]] (.tup [nils, Bo false]) := by
  cases f0 <;> cases f1
  · exact rf_nn_pos c hc k0 hk0 k1 hk1 h
  · exact rf_ns_pos c hc k0 hk0 k1 hk1 h
  · exact rf_sn_pos c hc k0 hk0 k1 hk1 h
  · exact rf_ss_pos c hc k0 hk0 k1 hk1 h
theorem RF_2_zt (f0 f1 : Bool) (c : Int) (hc : -19 ≤ c ∧ c ≤ 19) (k0 : Int) (hk0 : -5 ≤ k0 ∧ k0 ≤ 5) (k1 : Int) (hk1 : -5 ≤ k1 ∧ k1 ≤ 5) (h : c - k0 - k1 = 0) (hf : (f0 || f1) = true) : R 10 [.lst 11 [litF f0 97 98 k0, litF f1 98 99 k1, litL 99 c]] (.tup [.lst 7 [nO 1, nO 1, nO 1], Bo true]) := by
  cases f0 <;> cases f1
  · cases hf
  · exact rf_ns_zt c hc k0 hk0 k1 hk1 h
  · exact rf_sn_zt c hc k0 hk0 k1 hk1 h
  · exact rf_ss_zt c hc k0 hk0 k1 hk1 h
theorem RF_2_zf (f0 f1 : Bool) (c : Int) (hc : -19 ≤ c ∧ c ≤ 19) (k0 : Int) (hk0 : -5 ≤ k0 ∧ k0 ≤ 5) (k1 : Int) (hk1 : -5 ≤ k1 ∧ k1 ≤ 5) (h : c - k0 - k1 = 0) (hf : (f0 || f1) = false) : R 10 [.lst 11 [litF f0 97 98 k0, litF f1 98 99 k1, litL 99 c]] (.tup [nils, Bo false]) := by
  cases f0 <;> cases f1
  · exact rf_nn_zf c hc k0 hk0 k1 hk1 h
  · cases hf
  · cases hf
  · cases hf
theorem RR_2_neg (f0 f1 : Bool) (c : Int) (hc : -19 ≤ c ∧ c ≤ 19) (k0 : Int) (hk0 : -5 ≤ k0 ∧ k0 ≤ 5) (k1 : Int) (hk1 : -5 ≤ k1 ∧ k1 ≤ 5) (h : c - k0 - k1 < 0) : R 11 [.lst 11 [litF f0 97 98 k0, litF f1 98 99 k1, litL 99 c], .lst 7 [nO 1, nO 1, nO 1]] (Bo true) := by
  cases f0 <;> cases f1
  · exact rr_nn_neg c hc k0 hk0 k1 hk1 h
  · exact rr_ns_neg c hc k0 hk0 k1 hk1 h
  · exact rr_sn_neg c hc k0 hk0 k1 hk1 h
  · exact rr_ss_neg c hc k0 hk0 k1 hk1 h
theorem RR_2_zt (f0 f1 : Bool) (c : Int) (hc : -19 ≤ c ∧ c ≤ 19) (k0 : Int) (hk0 : -5 ≤ k0 ∧ k0 ≤ 5) (k1 : Int) (hk1 : -5 ≤ k1 ∧ k1 ≤ 5) (h : c - k0 - k1 = 0) (hf : (f0 || f1) = true) : R 11 [.lst 11 [litF f0 97 98 k0, litF f1 98 99 k1, litL 99 c], .lst 7 [nO 1, nO 1, nO 1]] (Bo true) := by
  cases f0 <;> cases f1
  · cases hf
  · exact rr_ns_zt c hc k0 hk0 k1 hk1 h
  · exact rr_sn_zt c hc k0 hk0 k1 hk1 h
  · exact rr_ss_zt c hc k0 hk0 k1 hk1 h
theorem RF_3_neg (f0 f1 f2 : Bool) (c : Int) (hc : -19 ≤ c ∧ c ≤ 19) (k0 : Int) (hk0 : -5 ≤ k0 ∧ k0 ≤ 5) (k1 : Int) (hk1 : -5 ≤ k1 ∧ k1 ≤ 5) (k2 : Int) (hk2 : -5 ≤ k2 ∧ k2 ≤ 5) (h : c - k0 - k1 - k2 < 0) : R 10 [.lst 11 [litF f0 97 98 k0, litF f1 98 99 k1, litF f2 99 100 k2, litL 100 c]] (.tup [.lst 7 [nO 1, nO 1, nO 1, nO 1], Bo true]) := by
  cases f0 <;> cases f1 <;> cases f2
  · exact rf_nnn_neg c hc k0 hk0 k1 hk1 k2 hk2 h
  · exact rf_nns_neg c hc k0 hk0 k1 hk1 k2 hk2 h
  · exact rf_nsn_neg c hc k0 hk0 k1 hk1 k2 hk2 h
  · exact rf_nss_neg c hc k0 hk0 k1 hk1 k2 hk2 h
  · exact rf_snn_neg c hc k0 hk0 k1 hk1 k2 hk2 h
  · exact rf_sns_neg c hc k0 hk0 k1 hk1 k2 hk2 h
  · exact rf_ssn_neg c hc k0 hk0 k1 hk1 k2 hk2 h
  · exact rf_sss_neg c hc k0 hk0 k1 hk1 k2 hk2 h
theorem RF_3_pos (f0 f1 f2 : Bool) (c : Int) (hc : -19 ≤ c ∧ c ≤ 19) (k0 : Int) (hk0 : -5 ≤ k0 ∧ k0 ≤ 5) (k1 : Int) (hk1 : -5 ≤ k1 ∧ k1 ≤ 5) (k2 : Int) (hk2 : -5 ≤ k2 ∧ k2 ≤ 5) (h : 0 < c - k0 - k1 - k2) : R 10 [.lst 11 [litF f0 97 98 k0, litF f1 98 99 k1, litF f2 99 100 k2, litL 100 c]] (.tup [nils, Bo false]) := by
  cases f0 <;> cases f1 <;> cases f2
  · exact rf_nnn_pos c hc k0 hk0 k1 hk1 k2 hk2 h
  · exact rf_nns_pos c hc k0 hk0 k1 hk1 k2 hk2 h
  · exact rf_nsn_pos c hc k0 hk0 k1 hk1 k2 hk2 h
  · exact rf_nss_pos c hc k0 hk0 k1 hk1 k2 hk2 h
  · exact rf_snn_pos c hc k0 hk0 k1 hk1 k2 hk2 h
  · exact rf_sns_pos c hc k0 hk0 k1 hk1 k2 hk2 h
  · exact rf_ssn_pos c hc k0 hk0 k1 hk1 k2 hk2 h
  · exact rf_sss_pos c hc k0 hk0 k1 hk1 k2 hk2 h
theorem RF_3_zt (f0 f1 f2 : Bool) (c : Int) (hc : -19 ≤ c ∧ c ≤ 19) (k0 : Int) (hk0 : -5 ≤ k0 ∧ k0 ≤ 5) (k1 : Int) (hk1 : -5 ≤ k1 ∧ k1 ≤ 5) (k2 : Int) (hk2 : -5 ≤ k2 ∧ k2 ≤ 5) (h : c - k0 - k1 - k2 = 0) (hf : (f0 || f1 || f2) = true) : R 10 [.lst 11 [litF f0 97 98 k0, litF f1 98 99 k1, litF f2 99 100 k2, litL 100 c]] (.tup [.lst 7 [nO 1, nO 1, nO 1, nO 1], Bo true]) := by
  cases f0 <;> cases f1 <;> cases f2
  · cases hf
  · exact rf_nns_zt c hc k0 hk0 k1 hk1 k2 hk2 h
  · exact rf_nsn_zt c hc k0 hk0 k1 hk1 k2 hk2 h
  · exact rf_nss_zt c hc k0 hk0 k1 hk1 k2 hk2 h
  · exact rf_snn_zt c hc k0 hk0 k1 hk1 k2 hk2 h
  · exact rf_sns_zt c hc k0 hk0 k1 hk1 k2 hk2 h
  · exact rf_ssn_zt c hc k0 hk0 k1 hk1 k2 hk2 h
  · exact rf_sss_zt c hc k0 hk0 k1 hk1 k2 hk2 h
theorem RF_3_zf (f0 f1 f2 : Bool) (c : Int) (hc : -19 ≤ c ∧ c ≤ 19) (k0 : Int) (hk0 : -5 ≤ k0 ∧ k0 ≤ 5) (k1 : Int) (hk1 : -5 ≤ k1 ∧ k1 ≤ 5) (k2 : Int) (hk2 : -5 ≤ k2 ∧ k2 ≤ 5) (h : c - k0 - k1 - k2 = 0) (hf : (f0 || f1 || f2) = false) : R 10 [.lst 11 [litF f0 97 98 k0, litF f1 98 99 k1, litF f2 99 100 k2, litL 100 c]] (.tup [nils, Bo false]) := by
  cases f0 <;> cases f1 <;> cases f2
  · exact rf_nnn_zf c hc k0 hk0 k1 hk1 k2 hk2 h
  · cases hf
  · cases hf
  · cases hf
  · cases hf
  · cases hf
  · cases hf
  · cases hf
theorem RR_3_neg (f0 f1 f2 : Bool) (c : Int) (hc : -19 ≤ c ∧ c ≤ 19) (k0 : Int) (hk0 : -5 ≤ k0 ∧ k0 ≤ 5) (k1 : Int) (hk1 : -5 ≤ k1 ∧ k1 ≤ 5) (k2 : Int) (hk2 : -5 ≤ k2 ∧ k2 ≤ 5) (h : c - k0 - k1 - k2 < 0) : R 11 [.lst 11 [litF f0 97 98 k0, litF f1 98 99 k1, litF f2 99 100 k2, litL 100 c], .lst 7 [nO 1, nO 1, nO 1, nO 1]] (Bo true) := by
  cases f0 <;> cases f1 <;> cases f2
  · exact rr_nnn_neg c hc k0 hk0 k1 hk1 k2 hk2 h
  · exact rr_nns_neg c hc k0 hk0 k1 hk1 k2 hk2 h
  · exact rr_nsn_neg c hc k0 hk0 k1 hk1 k2 hk2 h
  · exact rr_nss_neg c hc k0 hk0 k1 hk1 k2 hk2 h
  · exact rr_snn_neg c hc k0 hk0 k1 hk1 k2 hk2 h
  · exact rr_sns_neg c hc k0 hk0 k1 hk1 k2 hk2 h
  · exact rr_ssn_neg c hc k0 hk0 k1 hk1 k2 hk2 h
  · exact rr_sss_neg c hc k0 hk0 k1 hk1 k2 hk2 h
theorem RR_3_zt (f0 f1 f2 : Bool) (c : Int) (hc : -19 ≤ c ∧ c ≤ 19) (k0 : Int) (hk0 : -5 ≤ k0 ∧ k0 ≤ 5) (k1 : Int) (hk1 : -5 ≤ k1 ∧ k1 ≤ 5) (k2 : Int) (hk2 : -5 ≤ k2 ∧ k2 ≤ 5) (h : c - k0 - k1 - k2 = 0) (hf : (f0 || f1 || f2) = true) : R 11 [.lst 11 [litF f0 97 98 k0, litF f1 98 99 k1, litF f2 99 100 k2, litL 100 c], .lst 7 [nO 1, nO 1, nO 1, nO 1]] (Bo true) := by
  cases f0 <;> cases f1 <;> cases f2
  · cases hf
  · exact rr_nns_zt c hc k0 hk0 k1 hk1 k2 hk2 h
  · exact rr_nsn_zt c hc k0 hk0 k1 hk1 k2 hk2 h
  · exact rr_nss_zt c hc k0 hk0 k1 hk1 k2 hk2 h
  · exact rr_snn_zt c hc k0 hk0 k1 hk1 k2 hk2 h
  · exact rr_sns_zt c hc k0 hk0 k1 hk1 k2 hk2 h
  · exact rr_ssn_zt c hc k0 hk0 k1 hk1 k2 hk2 h
  · exact rr_sss_zt c hc k0 hk0 k1 hk1 k2 hk2 h
theorem RF_4_neg (f0 f1 f2 f3 : Bool) (c : Int) (hc : -19 ≤ c ∧ c ≤ 19) (k0 : Int) (hk0 : -5 ≤ k0 ∧ k0 ≤ 5) (k1 : Int) (hk1 : -5 ≤ k1 ∧ k1 ≤ 5) (k2 : Int) (hk2 : -5 ≤ k2 ∧ k2 ≤ 5) (k3 : Int) (hk3 : -5 ≤ k3 ∧ k3 ≤ 5) (h : c - k0 - k1 - k2 - k3 < 0) : R 10 [.lst 11 [litF f0 97 98 k0, litF f1 98 99 k1, litF f2 99 100 k2, litF f3 100 101 k3, litL 101 c]] (.tup [.lst 7 [nO 1, nO 1, nO 1, nO 1, nO 1], Bo true]) := by
  cases f0 <;> cases f1 <;> cases f2 <;> cases f3
  · exact rf_nnnn_neg c hc k0 hk0 k1 hk1 k2 hk2 k3 hk3 h
  · exact rf_nnns_neg c hc k0 hk0 k1 hk1 k2 hk2 k3 hk3 h
  · exact rf_nnsn_neg c hc k0 hk0 k1 hk1 k2 hk2 k3 hk3 h
  · exact rf_nnss_neg c hc k0 hk0 k1 hk1 k2 hk2 k3 hk3 h
  · exact rf_nsnn_neg c hc k0 hk0 k1 hk1 k2 hk2 k3 hk3 h
  · exact rf_nsns_neg c hc k0 hk0 k1 hk1 k2 hk2 k3 hk3 h
  · exact rf_nssn_neg c hc k0 hk0 k1 hk1 k2 hk2 k3 hk3 h
  · exact rf_nsss_neg c hc k0 hk0 k1 hk1 k2 hk2 k3 hk3 h
  · exact rf_snnn_neg c hc k0 hk0 k1 hk1 k2 hk2 k3 hk3 h
  · exact rf_snns_neg c hc k0 hk0 k1 hk1 k2 hk2 k3 hk3 h
  · exact rf_snsn_neg c hc k0 hk0 k1 hk1 k2 hk2 k3 hk3 h
  · exact rf_snss_neg c hc k0 hk0 k1 hk1 k2 hk2 k3 hk3 h
  · exact rf_ssnn_neg c hc k0 hk0 k1 hk1 k2 hk2 k3 hk3 h
  · exact rf_ssns_neg c hc k0 hk0 k1 hk1 k2 hk2 k3 hk3 h
  · exact rf_sssn_neg c hc k0 hk0 k1 hk1 k2 hk2 k3 hk3 h
  · exact rf_ssss_neg c hc k0 hk0 k1 hk1 k2 hk2 k3 hk3 h
theorem RF_4_pos (f0 f1 f2 f3 : Bool) (c : Int) (hc : -19 ≤ c ∧ c ≤ 19) (k0 : Int) (hk0 : -5 ≤ k0 ∧ k0 ≤ 5) (k1 : Int) (hk1 : -5 ≤ k1 ∧ k1 ≤ 5) (k2 : Int) (hk2 : -5 ≤ k2 ∧ k2 ≤ 5) (k3 : Int) (hk3 : -5 ≤ k3 ∧ k3 ≤ 5) (h : 0 < c - k0 - k1 - k2 - k3) : R 10 [.lst 11 [litF f0 97 98 k0, litF f1 98 99 k1, litF f2 99 100 k2, litF f3 100 101 k3, litL 101 c]] (.tup [nils, Bo false]) := by
  cases f0 <;> cases f1 <;> cases f2 <;> cases f3
  · exact rf_nnnn_pos c hc k0 hk0 k1 hk1 k2 hk2 k3 hk3 h
  · exact rf_nnns_pos c hc k0 hk0 k1 hk1 k2 hk2 k3 hk3 h
  · exact rf_nnsn_pos c hc k0 hk0 k1 hk1 k2 hk2 k3 hk3 h
  · exact rf_nnss_pos c hc k0 hk0 k1 hk1 k2 hk2 k3 hk3 h
  · exact rf_nsnn_pos c hc k0 hk0 k1 hk1 k2 hk2 k3 hk3 h
  · exact rf_nsns_pos c hc k0 hk0 k1 hk1 k2 hk2 k3 hk3 h
  · exact rf_nssn_pos c hc k0 hk0 k1 hk1 k2 hk2 k3 hk3 h
  · exact rf_nsss_pos c hc k0 hk0 k1 hk1 k2 hk2 k3 hk3 h
  · exact rf_snnn_pos c hc k0 hk0 k1 hk1 k2 hk2 k3 hk3 h
  · exact rf_snns_pos c hc k0 hk0 k1 hk1 k2 hk2 k3 hk3 h
  · exact rf_snsn_pos c hc k0 hk0 k1 hk1 k2 hk2 k3 hk3 h
  · exact rf_snss_pos c hc k0 hk0 k1 hk1 k2 hk2 k3 hk3 h
  · exact rf_ssnn_pos c hc k0 hk0 k1 hk1 k2 hk2 k3 hk3 h
  · exact rf_ssns_pos c hc k0 hk0 k1 hk1 k2 hk2 k3 hk3 h
  · exact rf_sssn_pos c hc k0 hk0 k1 hk1 k2 hk2 k3 hk3 h
  · exact rf_ssss_pos c hc k0 hk0 k1 hk1 k2 hk2 k3 hk3 h
theorem RF_4_zt (f0 f1 f2 f3 : Bool) (c : Int) (hc : -19 ≤ c ∧ c ≤ 19) (k0 : Int) (hk0 : -5 ≤ k0 ∧ k0 ≤ 5) (k1 : Int) (hk1 : -5 ≤ k1 ∧ k1 ≤ 5) (k2 : Int) (hk2 : -5 ≤ k2 ∧ k2 ≤ 5) (k3 : Int) (hk3 : -5 ≤ k3 ∧ k3 ≤ 5) (h : c - k0 - k1 - k2 - k3 = 0) (hf : (f0 || f1 || f2 || f3) = true) : R 10 [.lst 11 [litF f0 97 98 k0, litF f1 98 99 k1, litF f2 99 100 k2, litF f3 100 101 k3, litL 101 c]] (.tup [.lst 7 [nO 1, nO 1, nO 1, nO 1, nO 1], Bo true]) := by
  cases f0 <;> cases f1 <;> cases f2 <;> cases f3
  · cases hf
  · exact rf_nnns_zt c hc k0 hk0 k1 hk1 k2 hk2 k3 hk3 h
  · exact rf_nnsn_zt c hc k0 hk0 k1 hk1 k2 hk2 k3 hk3 h
  · exact rf_nnss_zt c hc k0 hk0 k1 hk1 k2 hk2 k3 hk3 h
  · exact rf_nsnn_zt c hc k0 hk0 k1 hk1 k2 hk2 k3 hk3 h
  · exact rf_nsns_zt c hc k0 hk0 k1 hk1 k2 hk2 k3 hk3 h
  · exact rf_nssn_zt c hc k0 hk0 k1 hk1 k2 hk2 k3 hk3 h
  · exact rf_nsss_zt c hc k0 hk0 k1 hk1 k2 hk2 k3 hk3 h
  · exact rf_snnn_zt c hc k0 hk0 k1 hk1 k2 hk2 k3 hk3 h
  · exact rf_snns_zt c hc k0 hk0 k1 hk1 k2 hk2 k3 hk3 h
  · exact rf_snsn_zt c hc k0 hk0 k1 hk1 k2 hk2 k3 hk3 h
  · exact rf_snss_zt c hc k0 hk0 k1 hk1 k2 hk2 k3 hk3 h
  · exact rf_ssnn_zt c hc k0 hk0 k1 hk1 k2 hk2 k3 hk3 h
  · exact rf_ssns_zt c hc k0 hk0 k1 hk1 k2 hk2 k3 hk3 h
  · exact rf_sssn_zt c hc k0 hk0 k1 hk1 k2 hk2 k3 hk3 h
  · exact rf_ssss_zt c hc k0 hk0 k1 hk1 k2 hk2 k3 hk3 h
theorem RF_4_zf (f0 f1 f2 f3 : Bool) (c : Int) (hc : -19 ≤ c ∧ c ≤ 19) (k0 : Int) (hk0 : -5 ≤ k0 ∧ k0 ≤ 5) (k1 : Int) (hk1 : -5 ≤ k1 ∧ k1 ≤ 5) (k2 : Int) (hk2 : -5 ≤ k2 ∧ k2 ≤ 5) (k3 : Int) (hk3 : -5 ≤ k3 ∧ k3 ≤ 5) (h : c - k0 - k1 - k2 - k3 = 0) (hf : (f0 || f1 || f2 || f3) = false) : R 10 [.lst 11 [litF f0 97 98 k0, litF f1 98 99 k1, litF f2 99 100 k2, litF f3 100 101 k3, litL 101 c]] (.tup [nils, Bo false]) := by
  cases f0 <;> cases f1 <;> cases f2 <;> cases f3
  · exact rf_nnnn_zf c hc k0 hk0 k1 hk1 k2 hk2 k3 hk3 h
  · cases hf
  · cases hf
  · cases hf
  · cases hf
  · cases hf
  · cases hf
  · cases hf
  · cases hf
  · cases hf
  · cases hf
  · cases hf
  · cases hf
  · cases hf
  · cases hf
  · cases hf
theorem RR_4_neg (f0 f1 f2 f3 : Bool) (c : Int) (hc : -19 ≤ c ∧ c ≤ 19) (k0 : Int) (hk0 : -5 ≤ k0 ∧ k0 ≤ 5) (k1 : Int) (hk1 : -5 ≤ k1 ∧ k1 ≤ 5) (k2 : Int) (hk2 : -5 ≤ k2 ∧ k2 ≤ 5) (k3 : Int) (hk3 : -5 ≤ k3 ∧ k3 ≤ 5) (h : c - k0 - k1 - k2 - k3 < 0) : R 11 [.lst 11 [litF f0 97 98 k0, litF f1 98 99 k1, litF f2 99 100 k2, litF f3 100 101 k3, litL 101 c], .lst 7 [nO 1, nO 1, nO 1, nO 1, nO 1]] (Bo true) := by
  cases f0 <;> cases f1 <;> cases f2 <;> cases f3
  · exact rr_nnnn_neg c hc k0 hk0 k1 hk1 k2 hk2 k3 hk3 h
  · exact rr_nnns_neg c hc k0 hk0 k1 hk1 k2 hk2 k3 hk3 h
  · exact rr_nnsn_neg c hc k0 hk0 k1 hk1 k2 hk2 k3 hk3 h
  · exact rr_nnss_neg c hc k0 hk0 k1 hk1 k2 hk2 k3 hk3 h
  · exact rr_nsnn_neg c hc k0 hk0 k1 hk1 k2 hk2 k3 hk3 h
  · exact rr_nsns_neg c hc k0 hk0 k1 hk1 k2 hk2 k3 hk3 h
  · exact rr_nssn_neg c hc k0 hk0 k1 hk1 k2 hk2 k3 hk3 h
  · exact rr_nsss_neg c hc k0 hk0 k1 hk1 k2 hk2 k3 hk3 h
  · exact rr_snnn_neg c hc k0 hk0 k1 hk1 k2 hk2 k3 hk3 h
  · exact rr_snns_neg c hc k0 hk0 k1 hk1 k2 hk2 k3 hk3 h
  · exact rr_snsn_neg c hc k0 hk0 k1 hk1 k2 hk2 k3 hk3 h
  · exact rr_snss_neg c hc k0 hk0 k1 hk1 k2 hk2 k3 hk3 h
  · exact rr_ssnn_neg c hc k0 hk0 k1 hk1 k2 hk2 k3 hk3 h
  · exact rr_ssns_neg c hc k0 hk0 k1 hk1 k2 hk2 k3 hk3 h
  · exact rr_sssn_neg c hc k0 hk0 k1 hk1 k2 hk2 k3 hk3 h
  · exact rr_ssss_neg c hc k0 hk0 k1 hk1 k2 hk2 k3 hk3 h
theorem RR_4_zt (f0 f1 f2 f3 : Bool) (c : Int) (hc : -19 ≤ c ∧ c ≤ 19) (k0 : Int) (hk0 : -5 ≤ k0 ∧ k0 ≤ 5) (k1 : Int) (hk1 : -5 ≤ k1 ∧ k1 ≤ 5) (k2 : Int) (hk2 : -5 ≤ k2 ∧ k2 ≤ 5) (k3 : Int) (hk3 : -5 ≤ k3 ∧ k3 ≤ 5) (h : c - k0 - k1 - k2 - k3 = 0) (hf : (f0 || f1 || f2 || f3) = true) : R 11 [.lst 11 [litF f0 97 98 k0, litF f1 98 99 k1, litF f2 99 100 k2, litF f3 100 101 k3, litL 101 c], .lst 7 [nO 1, nO 1, nO 1, nO 1, nO 1]] (Bo true) := by
  cases f0 <;> cases f1 <;> cases f2 <;> cases f3
  · cases hf
  · exact rr_nnns_zt c hc k0 hk0 k1 hk1 k2 hk2 k3 hk3 h
  · exact rr_nnsn_zt c hc k0 hk0 k1 hk1 k2 hk2 k3 hk3 h
  · exact rr_nnss_zt c hc k0 hk0 k1 hk1 k2 hk2 k3 hk3 h
  · exact rr_nsnn_zt c hc k0 hk0 k1 hk1 k2 hk2 k3 hk3 h
  · exact rr_nsns_zt c hc k0 hk0 k1 hk1 k2 hk2 k3 hk3 h
  · exact rr_nssn_zt c hc k0 hk0 k1 hk1 k2 hk2 k3 hk3 h
  · exact rr_nsss_zt c hc k0 hk0 k1 hk1 k2 hk2 k3 hk3 h
  · exact rr_snnn_zt c hc k0 hk0 k1 hk1 k2 hk2 k3 hk3 h
  · exact rr_snns_zt c hc k0 hk0 k1 hk1 k2 hk2 k3 hk3 h
  · exact rr_snsn_zt c hc k0 hk0 k1 hk1 k2 hk2 k3 hk3 h
  · exact rr_snss_zt c hc k0 hk0 k1 hk1 k2 hk2 k3 hk3 h
  · exact rr_ssnn_zt c hc k0 hk0 k1 hk1 k2 hk2 k3 hk3 h
  · exact rr_ssns_zt c hc k0 hk0 k1 hk1 k2 hk2 k3 hk3 h
  · exact rr_sssn_zt c hc k0 hk0 k1 hk1 k2 hk2 k3 hk3 h
  · exact rr_ssss_zt c hc k0 hk0 k1 hk1 k2 hk2 k3 hk3 h
theorem law_yes (n d N c : Int) (es : List (List PV)) (h1 : binV .gtr (I es.length) (I 6) = some (Bo false)) (h2 : binV .add (I 2) (I (IntKind.i64.wrap (n.tmod 4))) = some (I N)) (h3 : cintV .i64 (.sc (.int .i8 (d.tmod 20))) = some (I c)) (cl ws : List (List PV)) (hc : R 14 [I N, .lst 1 es, I c] (.tup [.lst 11 cl, I 1])) (hr : R 10 [.lst 11 cl] (.tup [.lst 7 ws, Bo true])) (hx : R 11 [.lst 11 cl, .lst 7 ws] (Bo true)) : R 4 [.sc (.int .u8 n), .lst 1 es, .sc (.int .i8 d)] (Bo true) :=
  run tk0 (ok4.ask [15, 20, 24]) [Bo true, Bo false, I N, I c, .tup [.lst 11 cl, I 1], .tup [.lst 7 ws, Bo true], Bo true] (yo hx (yo hr (yo hc (yo h3 (yo h2 (yo h1 (yo awake_ok zo))))))) (by kernel_rfl)
theorem law_no (n d N c : Int) (es : List (List PV)) (h1 : binV .gtr (I es.length) (I 6) = some (Bo false)) (h2 : binV .add (I 2) (I (IntKind.i64.wrap (n.tmod 4))) = some (I N)) (h3 : cintV .i64 (.sc (.int .i8 (d.tmod 20))) = some (I c)) (cl : List (List PV)) (hc : R 14 [I N, .lst 1 es, I c] (.tup [.lst 11 cl, I 0])) (hr : R 10 [.lst 11 cl] (.tup [nils, Bo false])) : R 4 [.sc (.int .u8 n), .lst 1 es, .sc (.int .i8 d)] (Bo true) :=
  run tk0 (ok4.ask [15, 20, 24]) [Bo true, Bo false, I N, I c, .tup [.lst 11 cl, I 0], .tup [nils, Bo false]] (yo hr (yo hc (yo h3 (yo h2 (yo h1 (yo awake_ok zo)))))) (by kernel_rfl)
theorem law_yes_n (n d N c : Int) (h2 : binV .add (I 2) (I (IntKind.i64.wrap (n.tmod 4))) = some (I N)) (h3 : cintV .i64 (.sc (.int .i8 (d.tmod 20))) = some (I c)) (cl ws : List (List PV)) (hc : R 14 [I N, nils, I c] (.tup [.lst 11 cl, I 1])) (hr : R 10 [.lst 11 cl] (.tup [.lst 7 ws, Bo true])) (hx : R 11 [.lst 11 cl, .lst 7 ws] (Bo true)) : R 4 [.sc (.int .u8 n), nils, .sc (.int .i8 d)] (Bo true) :=
  run tk0 (ok4.ask [20, 24]) [Bo true, I N, I c, .tup [.lst 11 cl, I 1], .tup [.lst 7 ws, Bo true], Bo true] (yo hx (yo hr (yo hc (yo h3 (yo h2 (yo awake_ok zo)))))) (by kernel_rfl)
theorem law_no_n (n d N c : Int) (h2 : binV .add (I 2) (I (IntKind.i64.wrap (n.tmod 4))) = some (I N)) (h3 : cintV .i64 (.sc (.int .i8 (d.tmod 20))) = some (I c)) (cl : List (List PV)) (hc : R 14 [I N, nils, I c] (.tup [.lst 11 cl, I 0])) (hr : R 10 [.lst 11 cl] (.tup [nils, Bo false])) : R 4 [.sc (.int .u8 n), nils, .sc (.int .i8 d)] (Bo true) :=
  run tk0 (ok4.ask [20, 24]) [Bo true, I N, I c, .tup [.lst 11 cl, I 0], .tup [nils, Bo false]] (yo hr (yo hc (yo h3 (yo h2 (yo awake_ok zo))))) (by kernel_rfl)
theorem law_long (n d : Int) (es : List (List PV)) (h1 : binV .gtr (I es.length) (I 6) = some (Bo true)) : R 4 [.sc (.int .u8 n), .lst 1 es, .sc (.int .i8 d)] (Bo true) :=
  run tk0 (ok4.ask [15]) [Bo true, Bo true] (yo h1 (yo awake_ok zo)) (by kernel_rfl)

theorem gt_yes {a b : Int} (h : b < a) : binV .gtr (I a) (I b) = some (Bo true) := by
  simp only [binV, I, sbin, if_true, Option.map_some, Bo]
  rw [show decide (a > b) = true by simpa using h]
theorem eq_yes {a b : Int} (h : a = b) : binV .eql (I a) (I b) = some (Bo true) := by
  subst h; simp [binV, I, sbin, Bo]
theorem eq_no {a b : Int} (h : a ≠ b) : binV .eql (I a) (I b) = some (Bo false) := by
  simp [binV, I, sbin, Bo, h]
theorem step_of (b : Int) (h : 0 ≤ b ∧ b ≤ 255) : ∃ k : Int, (-5 ≤ k ∧ k ≤ 5) ∧ binV .sub (I (IntKind.i64.wrap (b.tmod 11))) (I 5) = some (I k) := by
  have e : b.tmod 11 = b % 11 := Int.tmod_eq_emod_of_nonneg h.1
  refine ⟨b % 11 - 5, by omega, ?_⟩
  simp only [binV, I, sbin, if_true, Option.map_some, e]
  have w1 : IntKind.i64.wrap (b % 11) = b % 11 := by rw [IntKind.wrap_i64]; omega
  have w2 : IntKind.i64.wrap (b % 11 - 5) = b % 11 - 5 := by rw [IntKind.wrap_i64]; omega
  rw [w1, w2]
theorem flag_of (b : Int) : ∃ f : Bool, binV .geq (U b) (U 128) = some (Bo f) := ⟨decide (b ≥ 128), by simp [binV, U, sbin, Bo]⟩
theorem last_of (d : Int) (h : -128 ≤ d ∧ d ≤ 127) : ∃ c : Int, (-19 ≤ c ∧ c ≤ 19) ∧ cintV .i64 (.sc (.int .i8 (d.tmod 20))) = some (I c) := by
  have e : -19 ≤ d.tmod 20 ∧ d.tmod 20 ≤ 19 := by
    have h1 := Int.tmod_lt_of_pos d (b := 20) (by omega)
    have h2 := Int.lt_tmod_of_pos d (b := 20) (by omega)
    omega
  refine ⟨d.tmod 20, e, ?_⟩
  simp only [cintV, I]
  have w1 : IntKind.i64.wrap (d.tmod 20) = d.tmod 20 := by rw [IntKind.wrap_i64]; omega
  rw [w1]
theorem many_of (n : Int) (h : 0 ≤ n ∧ n ≤ 255) : ∃ r : Nat, r < 4 ∧ binV .add (I 2) (I (IntKind.i64.wrap (n.tmod 4))) = some (I (r + 2)) := by
  have e : n.tmod 4 = n % 4 := Int.tmod_eq_emod_of_nonneg h.1
  refine ⟨(n % 4).toNat, by omega, ?_⟩
  simp only [binV, I, sbin, if_true, Option.map_some, e]
  have w1 : IntKind.i64.wrap (n % 4) = n % 4 := by rw [IntKind.wrap_i64]; omega
  have w2 : IntKind.i64.wrap (2 + n % 4) = 2 + n % 4 := by rw [IntKind.wrap_i64]; omega
  rw [w1, w2]
  congr 3
  omega
theorem top_1_0 (n d : Int) (hd : -128 ≤ d ∧ d ≤ 127) (hl : ([] : List (List PV)).length ≤ 6) (h2 : binV .add (I 2) (I (IntKind.i64.wrap (n.tmod 4))) = some (I 2)) : R 4 [.sc (.int .u8 n), .lst 1 ([]), .sc (.int .i8 d)] (Bo true) := by
  obtain ⟨c, hc, h3⟩ := last_of d hd
  have h1 : binV .gtr (I (([] : List (List PV)).length : Nat)) (I 6) = some (Bo false) := gt_no (by omega)
  rcases Int.lt_trichotomy (c - 0) 0 with h | h | h
  · exact law_yes n d 2 c ([]) h1 h2 h3 _ _ (ch_1_0_gt c hc (gt_yes (by omega))) (RF_1_neg false c hc 0 (by omega) (by omega)) (RR_1_neg false c hc 0 (by omega) (by omega))
  · exact law_no n d 2 c ([]) h1 h2 h3 _ (ch_1_0_eq c hc (gt_no (by omega)) (eq_yes (by omega))) (RF_1_zf false c hc 0 (by omega) (by omega) rfl)
  · exact law_no n d 2 c ([]) h1 h2 h3 _ (ch_1_0_lt c hc (gt_no (by omega)) (eq_no (by omega))) (RF_1_pos false c hc 0 (by omega) (by omega))
theorem top_1_1 (n d : Int) (hd : -128 ≤ d ∧ d ≤ 127) (b0 : Int) (hh0 : 0 ≤ b0 ∧ b0 ≤ 255) (rest : List (List PV)) (hl : ([U b0] :: rest : List (List PV)).length ≤ 6) (h2 : binV .add (I 2) (I (IntKind.i64.wrap (n.tmod 4))) = some (I 2)) : R 4 [.sc (.int .u8 n), .lst 1 ([U b0] :: rest), .sc (.int .i8 d)] (Bo true) := by
  obtain ⟨c, hc, h3⟩ := last_of d hd
  obtain ⟨k0, hk0, hb0⟩ := step_of b0 hh0
  obtain ⟨f0, hf0⟩ := flag_of b0
  have h1 : binV .gtr (I (([U b0] :: rest : List (List PV)).length : Nat)) (I 6) = some (Bo false) := gt_no (by omega)
  rcases Int.lt_trichotomy (c - k0) 0 with h | h | h
  · exact law_yes n d 2 c ([U b0] :: rest) h1 h2 h3 _ _ (ch_1_1_gt b0 k0 f0 rest c hc hk0 hb0 hf0 (gt_yes (by omega))) (RF_1_neg f0 c hc k0 hk0 (by omega)) (RR_1_neg f0 c hc k0 hk0 (by omega))
  · have hch := (ch_1_1_eq b0 k0 f0 rest c hc hk0 hb0 hf0 (gt_no (by omega)) (eq_yes (by omega)))
    cases hF : (f0) with
    | false =>
      rw [show (bif f0 then (1 : Int) else 0) = 0 by rw [hF]; rfl] at hch
      exact law_no n d 2 c ([U b0] :: rest) h1 h2 h3 _ hch (RF_1_zf f0 c hc k0 hk0 (by omega) (by simpa using hF))
    | true =>
      rw [show (bif f0 then (1 : Int) else 0) = 1 by rw [hF]; rfl] at hch
      exact law_yes n d 2 c ([U b0] :: rest) h1 h2 h3 _ _ hch (RF_1_zt f0 c hc k0 hk0 (by omega) (by simpa using hF)) (RR_1_zt f0 c hc k0 hk0 (by omega) (by simpa using hF))
  · exact law_no n d 2 c ([U b0] :: rest) h1 h2 h3 _ (ch_1_1_lt b0 k0 f0 rest c hc hk0 hb0 hf0 (gt_no (by omega)) (eq_no (by omega))) (RF_1_pos f0 c hc k0 hk0 (by omega))
theorem top_1_n (n d : Int) (hd : -128 ≤ d ∧ d ≤ 127) (h2 : binV .add (I 2) (I (IntKind.i64.wrap (n.tmod 4))) = some (I 2)) : R 4 [.sc (.int .u8 n), nils, .sc (.int .i8 d)] (Bo true) := by
  obtain ⟨c, hc, h3⟩ := last_of d hd
  rcases Int.lt_trichotomy (c - 0) 0 with h | h | h
  · exact law_yes_n n d 2 c h2 h3 _ _ (ch_1_n_gt c hc (gt_yes (by omega))) (RF_1_neg false c hc 0 (by omega) (by omega)) (RR_1_neg false c hc 0 (by omega) (by omega))
  · exact law_no_n n d 2 c h2 h3 _ (ch_1_n_eq c hc (gt_no (by omega)) (eq_yes (by omega))) (RF_1_zf false c hc 0 (by omega) (by omega) rfl)
  · exact law_no_n n d 2 c h2 h3 _ (ch_1_n_lt c hc (gt_no (by omega)) (eq_no (by omega))) (RF_1_pos false c hc 0 (by omega) (by omega))
theorem top_2_0 (n d : Int) (hd : -128 ≤ d ∧ d ≤ 127) (hl : ([] : List (List PV)).length ≤ 6) (h2 : binV .add (I 2) (I (IntKind.i64.wrap (n.tmod 4))) = some (I 3)) : R 4 [.sc (.int .u8 n), .lst 1 ([]), .sc (.int .i8 d)] (Bo true) := by
  obtain ⟨c, hc, h3⟩ := last_of d hd
  have h1 : binV .gtr (I (([] : List (List PV)).length : Nat)) (I 6) = some (Bo false) := gt_no (by omega)
  rcases Int.lt_trichotomy (c - 0 - 0) 0 with h | h | h
  · exact law_yes n d 3 c ([]) h1 h2 h3 _ _ (ch_2_0_gt c hc (gt_yes (by omega))) (RF_2_neg false false c hc 0 (by omega) 0 (by omega) (by omega)) (RR_2_neg false false c hc 0 (by omega) 0 (by omega) (by omega))
  · exact law_no n d 3 c ([]) h1 h2 h3 _ (ch_2_0_eq c hc (gt_no (by omega)) (eq_yes (by omega))) (RF_2_zf false false c hc 0 (by omega) 0 (by omega) (by omega) rfl)
  · exact law_no n d 3 c ([]) h1 h2 h3 _ (ch_2_0_lt c hc (gt_no (by omega)) (eq_no (by omega))) (RF_2_pos false false c hc 0 (by omega) 0 (by omega) (by omega))
theorem top_2_1 (n d : Int) (hd : -128 ≤ d ∧ d ≤ 127) (b0 : Int) (hh0 : 0 ≤ b0 ∧ b0 ≤ 255) (hl : ([U b0] :: [] : List (List PV)).length ≤ 6) (h2 : binV .add (I 2) (I (IntKind.i64.wrap (n.tmod 4))) = some (I 3)) : R 4 [.sc (.int .u8 n), .lst 1 ([U b0] :: []), .sc (.int .i8 d)] (Bo true) := by
  obtain ⟨c, hc, h3⟩ := last_of d hd
  obtain ⟨k0, hk0, hb0⟩ := step_of b0 hh0
  obtain ⟨f0, hf0⟩ := flag_of b0
  have h1 : binV .gtr (I (([U b0] :: [] : List (List PV)).length : Nat)) (I 6) = some (Bo false) := gt_no (by omega)
  rcases Int.lt_trichotomy (c - k0 - 0) 0 with h | h | h
  · exact law_yes n d 3 c ([U b0] :: []) h1 h2 h3 _ _ (ch_2_1_gt b0 k0 f0 c hc hk0 hb0 hf0 (gt_yes (by omega))) (RF_2_neg f0 false c hc k0 hk0 0 (by omega) (by omega)) (RR_2_neg f0 false c hc k0 hk0 0 (by omega) (by omega))
  · have hch := (ch_2_1_eq b0 k0 f0 c hc hk0 hb0 hf0 (gt_no (by omega)) (eq_yes (by omega)))
    cases hF : (f0) with
    | false =>
      rw [show (bif f0 then (1 : Int) else 0) = 0 by rw [hF]; rfl] at hch
      exact law_no n d 3 c ([U b0] :: []) h1 h2 h3 _ hch (RF_2_zf f0 false c hc k0 hk0 0 (by omega) (by omega) (by simpa using hF))
    | true =>
      rw [show (bif f0 then (1 : Int) else 0) = 1 by rw [hF]; rfl] at hch
      exact law_yes n d 3 c ([U b0] :: []) h1 h2 h3 _ _ hch (RF_2_zt f0 false c hc k0 hk0 0 (by omega) (by omega) (by simpa using hF)) (RR_2_zt f0 false c hc k0 hk0 0 (by omega) (by omega) (by simpa using hF))
  · exact law_no n d 3 c ([U b0] :: []) h1 h2 h3 _ (ch_2_1_lt b0 k0 f0 c hc hk0 hb0 hf0 (gt_no (by omega)) (eq_no (by omega))) (RF_2_pos f0 false c hc k0 hk0 0 (by omega) (by omega))
theorem top_2_2 (n d : Int) (hd : -128 ≤ d ∧ d ≤ 127) (b0 b1 : Int) (hh0 : 0 ≤ b0 ∧ b0 ≤ 255) (hh1 : 0 ≤ b1 ∧ b1 ≤ 255) (rest : List (List PV)) (hl : ([U b0] :: [U b1] :: rest : List (List PV)).length ≤ 6) (h2 : binV .add (I 2) (I (IntKind.i64.wrap (n.tmod 4))) = some (I 3)) : R 4 [.sc (.int .u8 n), .lst 1 ([U b0] :: [U b1] :: rest), .sc (.int .i8 d)] (Bo true) := by
  obtain ⟨c, hc, h3⟩ := last_of d hd
  obtain ⟨k0, hk0, hb0⟩ := step_of b0 hh0
  obtain ⟨f0, hf0⟩ := flag_of b0
  obtain ⟨k1, hk1, hb1⟩ := step_of b1 hh1
  obtain ⟨f1, hf1⟩ := flag_of b1
  have h1 : binV .gtr (I (([U b0] :: [U b1] :: rest : List (List PV)).length : Nat)) (I 6) = some (Bo false) := gt_no (by omega)
  rcases Int.lt_trichotomy (c - k0 - k1) 0 with h | h | h
  · exact law_yes n d 3 c ([U b0] :: [U b1] :: rest) h1 h2 h3 _ _ (ch_2_2_gt b0 b1 k0 k1 f0 f1 rest c hc hk0 hb0 hf0 hk1 hb1 hf1 (gt_yes (by omega))) (RF_2_neg f0 f1 c hc k0 hk0 k1 hk1 (by omega)) (RR_2_neg f0 f1 c hc k0 hk0 k1 hk1 (by omega))
  · have hch := (ch_2_2_eq b0 b1 k0 k1 f0 f1 rest c hc hk0 hb0 hf0 hk1 hb1 hf1 (gt_no (by omega)) (eq_yes (by omega)))
    cases hF : (f0 || f1) with
    | false =>
      rw [show (bif f0 || f1 then (1 : Int) else 0) = 0 by rw [hF]; rfl] at hch
      exact law_no n d 3 c ([U b0] :: [U b1] :: rest) h1 h2 h3 _ hch (RF_2_zf f0 f1 c hc k0 hk0 k1 hk1 (by omega) (by simpa using hF))
    | true =>
      rw [show (bif f0 || f1 then (1 : Int) else 0) = 1 by rw [hF]; rfl] at hch
      exact law_yes n d 3 c ([U b0] :: [U b1] :: rest) h1 h2 h3 _ _ hch (RF_2_zt f0 f1 c hc k0 hk0 k1 hk1 (by omega) (by simpa using hF)) (RR_2_zt f0 f1 c hc k0 hk0 k1 hk1 (by omega) (by simpa using hF))
  · exact law_no n d 3 c ([U b0] :: [U b1] :: rest) h1 h2 h3 _ (ch_2_2_lt b0 b1 k0 k1 f0 f1 rest c hc hk0 hb0 hf0 hk1 hb1 hf1 (gt_no (by omega)) (eq_no (by omega))) (RF_2_pos f0 f1 c hc k0 hk0 k1 hk1 (by omega))
theorem top_2_n (n d : Int) (hd : -128 ≤ d ∧ d ≤ 127) (h2 : binV .add (I 2) (I (IntKind.i64.wrap (n.tmod 4))) = some (I 3)) : R 4 [.sc (.int .u8 n), nils, .sc (.int .i8 d)] (Bo true) := by
  obtain ⟨c, hc, h3⟩ := last_of d hd
  rcases Int.lt_trichotomy (c - 0 - 0) 0 with h | h | h
  · exact law_yes_n n d 3 c h2 h3 _ _ (ch_2_n_gt c hc (gt_yes (by omega))) (RF_2_neg false false c hc 0 (by omega) 0 (by omega) (by omega)) (RR_2_neg false false c hc 0 (by omega) 0 (by omega) (by omega))
  · exact law_no_n n d 3 c h2 h3 _ (ch_2_n_eq c hc (gt_no (by omega)) (eq_yes (by omega))) (RF_2_zf false false c hc 0 (by omega) 0 (by omega) (by omega) rfl)
  · exact law_no_n n d 3 c h2 h3 _ (ch_2_n_lt c hc (gt_no (by omega)) (eq_no (by omega))) (RF_2_pos false false c hc 0 (by omega) 0 (by omega) (by omega))
theorem top_3_0 (n d : Int) (hd : -128 ≤ d ∧ d ≤ 127) (hl : ([] : List (List PV)).length ≤ 6) (h2 : binV .add (I 2) (I (IntKind.i64.wrap (n.tmod 4))) = some (I 4)) : R 4 [.sc (.int .u8 n), .lst 1 ([]), .sc (.int .i8 d)] (Bo true) := by
  obtain ⟨c, hc, h3⟩ := last_of d hd
  have h1 : binV .gtr (I (([] : List (List PV)).length : Nat)) (I 6) = some (Bo false) := gt_no (by omega)
  rcases Int.lt_trichotomy (c - 0 - 0 - 0) 0 with h | h | h
  · exact law_yes n d 4 c ([]) h1 h2 h3 _ _ (ch_3_0_gt c hc (gt_yes (by omega))) (RF_3_neg false false false c hc 0 (by omega) 0 (by omega) 0 (by omega) (by omega)) (RR_3_neg false false false c hc 0 (by omega) 0 (by omega) 0 (by omega) (by omega))
  · exact law_no n d 4 c ([]) h1 h2 h3 _ (ch_3_0_eq c hc (gt_no (by omega)) (eq_yes (by omega))) (RF_3_zf false false false c hc 0 (by omega) 0 (by omega) 0 (by omega) (by omega) rfl)
  · exact law_no n d 4 c ([]) h1 h2 h3 _ (ch_3_0_lt c hc (gt_no (by omega)) (eq_no (by omega))) (RF_3_pos false false false c hc 0 (by omega) 0 (by omega) 0 (by omega) (by omega))
theorem top_3_1 (n d : Int) (hd : -128 ≤ d ∧ d ≤ 127) (b0 : Int) (hh0 : 0 ≤ b0 ∧ b0 ≤ 255) (hl : ([U b0] :: [] : List (List PV)).length ≤ 6) (h2 : binV .add (I 2) (I (IntKind.i64.wrap (n.tmod 4))) = some (I 4)) : R 4 [.sc (.int .u8 n), .lst 1 ([U b0] :: []), .sc (.int .i8 d)] (Bo true) := by
  obtain ⟨c, hc, h3⟩ := last_of d hd
  obtain ⟨k0, hk0, hb0⟩ := step_of b0 hh0
  obtain ⟨f0, hf0⟩ := flag_of b0
  have h1 : binV .gtr (I (([U b0] :: [] : List (List PV)).length : Nat)) (I 6) = some (Bo false) := gt_no (by omega)
  rcases Int.lt_trichotomy (c - k0 - 0 - 0) 0 with h | h | h
  · exact law_yes n d 4 c ([U b0] :: []) h1 h2 h3 _ _ (ch_3_1_gt b0 k0 f0 c hc hk0 hb0 hf0 (gt_yes (by omega))) (RF_3_neg f0 false false c hc k0 hk0 0 (by omega) 0 (by omega) (by omega)) (RR_3_neg f0 false false c hc k0 hk0 0 (by omega) 0 (by omega) (by omega))
  · have hch := (ch_3_1_eq b0 k0 f0 c hc hk0 hb0 hf0 (gt_no (by omega)) (eq_yes (by omega)))
    cases hF : (f0) with
    | false =>
      rw [show (bif f0 then (1 : Int) else 0) = 0 by rw [hF]; rfl] at hch
      exact law_no n d 4 c ([U b0] :: []) h1 h2 h3 _ hch (RF_3_zf f0 false false c hc k0 hk0 0 (by omega) 0 (by omega) (by omega) (by simpa using hF))
    | true =>
      rw [show (bif f0 then (1 : Int) else 0) = 1 by rw [hF]; rfl] at hch
      exact law_yes n d 4 c ([U b0] :: []) h1 h2 h3 _ _ hch (RF_3_zt f0 false false c hc k0 hk0 0 (by omega) 0 (by omega) (by omega) (by simpa using hF)) (RR_3_zt f0 false false c hc k0 hk0 0 (by omega) 0 (by omega) (by omega) (by simpa using hF))
  · exact law_no n d 4 c ([U b0] :: []) h1 h2 h3 _ (ch_3_1_lt b0 k0 f0 c hc hk0 hb0 hf0 (gt_no (by omega)) (eq_no (by omega))) (RF_3_pos f0 false false c hc k0 hk0 0 (by omega) 0 (by omega) (by omega))
theorem top_3_2 (n d : Int) (hd : -128 ≤ d ∧ d ≤ 127) (b0 b1 : Int) (hh0 : 0 ≤ b0 ∧ b0 ≤ 255) (hh1 : 0 ≤ b1 ∧ b1 ≤ 255) (hl : ([U b0] :: [U b1] :: [] : List (List PV)).length ≤ 6) (h2 : binV .add (I 2) (I (IntKind.i64.wrap (n.tmod 4))) = some (I 4)) : R 4 [.sc (.int .u8 n), .lst 1 ([U b0] :: [U b1] :: []), .sc (.int .i8 d)] (Bo true) := by
  obtain ⟨c, hc, h3⟩ := last_of d hd
  obtain ⟨k0, hk0, hb0⟩ := step_of b0 hh0
  obtain ⟨f0, hf0⟩ := flag_of b0
  obtain ⟨k1, hk1, hb1⟩ := step_of b1 hh1
  obtain ⟨f1, hf1⟩ := flag_of b1
  have h1 : binV .gtr (I (([U b0] :: [U b1] :: [] : List (List PV)).length : Nat)) (I 6) = some (Bo false) := gt_no (by omega)
  rcases Int.lt_trichotomy (c - k0 - k1 - 0) 0 with h | h | h
  · exact law_yes n d 4 c ([U b0] :: [U b1] :: []) h1 h2 h3 _ _ (ch_3_2_gt b0 b1 k0 k1 f0 f1 c hc hk0 hb0 hf0 hk1 hb1 hf1 (gt_yes (by omega))) (RF_3_neg f0 f1 false c hc k0 hk0 k1 hk1 0 (by omega) (by omega)) (RR_3_neg f0 f1 false c hc k0 hk0 k1 hk1 0 (by omega) (by omega))
  · have hch := (ch_3_2_eq b0 b1 k0 k1 f0 f1 c hc hk0 hb0 hf0 hk1 hb1 hf1 (gt_no (by omega)) (eq_yes (by omega)))
    cases hF : (f0 || f1) with
    | false =>
      rw [show (bif f0 || f1 then (1 : Int) else 0) = 0 by rw [hF]; rfl] at hch
      exact law_no n d 4 c ([U b0] :: [U b1] :: []) h1 h2 h3 _ hch (RF_3_zf f0 f1 false c hc k0 hk0 k1 hk1 0 (by omega) (by omega) (by simpa using hF))
    | true =>
      rw [show (bif f0 || f1 then (1 : Int) else 0) = 1 by rw [hF]; rfl] at hch
      exact law_yes n d 4 c ([U b0] :: [U b1] :: []) h1 h2 h3 _ _ hch (RF_3_zt f0 f1 false c hc k0 hk0 k1 hk1 0 (by omega) (by omega) (by simpa using hF)) (RR_3_zt f0 f1 false c hc k0 hk0 k1 hk1 0 (by omega) (by omega) (by simpa using hF))
  · exact law_no n d 4 c ([U b0] :: [U b1] :: []) h1 h2 h3 _ (ch_3_2_lt b0 b1 k0 k1 f0 f1 c hc hk0 hb0 hf0 hk1 hb1 hf1 (gt_no (by omega)) (eq_no (by omega))) (RF_3_pos f0 f1 false c hc k0 hk0 k1 hk1 0 (by omega) (by omega))
theorem top_3_3 (n d : Int) (hd : -128 ≤ d ∧ d ≤ 127) (b0 b1 b2 : Int) (hh0 : 0 ≤ b0 ∧ b0 ≤ 255) (hh1 : 0 ≤ b1 ∧ b1 ≤ 255) (hh2 : 0 ≤ b2 ∧ b2 ≤ 255) (rest : List (List PV)) (hl : ([U b0] :: [U b1] :: [U b2] :: rest : List (List PV)).length ≤ 6) (h2 : binV .add (I 2) (I (IntKind.i64.wrap (n.tmod 4))) = some (I 4)) : R 4 [.sc (.int .u8 n), .lst 1 ([U b0] :: [U b1] :: [U b2] :: rest), .sc (.int .i8 d)] (Bo true) := by
  obtain ⟨c, hc, h3⟩ := last_of d hd
  obtain ⟨k0, hk0, hb0⟩ := step_of b0 hh0
  obtain ⟨f0, hf0⟩ := flag_of b0
  obtain ⟨k1, hk1, hb1⟩ := step_of b1 hh1
  obtain ⟨f1, hf1⟩ := flag_of b1
  obtain ⟨k2, hk2, hb2⟩ := step_of b2 hh2
  obtain ⟨f2, hf2⟩ := flag_of b2
  have h1 : binV .gtr (I (([U b0] :: [U b1] :: [U b2] :: rest : List (List PV)).length : Nat)) (I 6) = some (Bo false) := gt_no (by omega)
  rcases Int.lt_trichotomy (c - k0 - k1 - k2) 0 with h | h | h
  · exact law_yes n d 4 c ([U b0] :: [U b1] :: [U b2] :: rest) h1 h2 h3 _ _ (ch_3_3_gt b0 b1 b2 k0 k1 k2 f0 f1 f2 rest c hc hk0 hb0 hf0 hk1 hb1 hf1 hk2 hb2 hf2 (gt_yes (by omega))) (RF_3_neg f0 f1 f2 c hc k0 hk0 k1 hk1 k2 hk2 (by omega)) (RR_3_neg f0 f1 f2 c hc k0 hk0 k1 hk1 k2 hk2 (by omega))
  · have hch := (ch_3_3_eq b0 b1 b2 k0 k1 k2 f0 f1 f2 rest c hc hk0 hb0 hf0 hk1 hb1 hf1 hk2 hb2 hf2 (gt_no (by omega)) (eq_yes (by omega)))
    cases hF : (f0 || f1 || f2) with
    | false =>
      rw [show (bif f0 || f1 || f2 then (1 : Int) else 0) = 0 by rw [hF]; rfl] at hch
      exact law_no n d 4 c ([U b0] :: [U b1] :: [U b2] :: rest) h1 h2 h3 _ hch (RF_3_zf f0 f1 f2 c hc k0 hk0 k1 hk1 k2 hk2 (by omega) (by simpa using hF))
    | true =>
      rw [show (bif f0 || f1 || f2 then (1 : Int) else 0) = 1 by rw [hF]; rfl] at hch
      exact law_yes n d 4 c ([U b0] :: [U b1] :: [U b2] :: rest) h1 h2 h3 _ _ hch (RF_3_zt f0 f1 f2 c hc k0 hk0 k1 hk1 k2 hk2 (by omega) (by simpa using hF)) (RR_3_zt f0 f1 f2 c hc k0 hk0 k1 hk1 k2 hk2 (by omega) (by simpa using hF))
  · exact law_no n d 4 c ([U b0] :: [U b1] :: [U b2] :: rest) h1 h2 h3 _ (ch_3_3_lt b0 b1 b2 k0 k1 k2 f0 f1 f2 rest c hc hk0 hb0 hf0 hk1 hb1 hf1 hk2 hb2 hf2 (gt_no (by omega)) (eq_no (by omega))) (RF_3_pos f0 f1 f2 c hc k0 hk0 k1 hk1 k2 hk2 (by omega))
theorem top_3_n (n d : Int) (hd : -128 ≤ d ∧ d ≤ 127) (h2 : binV .add (I 2) (I (IntKind.i64.wrap (n.tmod 4))) = some (I 4)) : R 4 [.sc (.int .u8 n), nils, .sc (.int .i8 d)] (Bo true) := by
  obtain ⟨c, hc, h3⟩ := last_of d hd
  rcases Int.lt_trichotomy (c - 0 - 0 - 0) 0 with h | h | h
  · exact law_yes_n n d 4 c h2 h3 _ _ (ch_3_n_gt c hc (gt_yes (by omega))) (RF_3_neg false false false c hc 0 (by omega) 0 (by omega) 0 (by omega) (by omega)) (RR_3_neg false false false c hc 0 (by omega) 0 (by omega) 0 (by omega) (by omega))
  · exact law_no_n n d 4 c h2 h3 _ (ch_3_n_eq c hc (gt_no (by omega)) (eq_yes (by omega))) (RF_3_zf false false false c hc 0 (by omega) 0 (by omega) 0 (by omega) (by omega) rfl)
  · exact law_no_n n d 4 c h2 h3 _ (ch_3_n_lt c hc (gt_no (by omega)) (eq_no (by omega))) (RF_3_pos false false false c hc 0 (by omega) 0 (by omega) 0 (by omega) (by omega))
theorem top_4_0 (n d : Int) (hd : -128 ≤ d ∧ d ≤ 127) (hl : ([] : List (List PV)).length ≤ 6) (h2 : binV .add (I 2) (I (IntKind.i64.wrap (n.tmod 4))) = some (I 5)) : R 4 [.sc (.int .u8 n), .lst 1 ([]), .sc (.int .i8 d)] (Bo true) := by
  obtain ⟨c, hc, h3⟩ := last_of d hd
  have h1 : binV .gtr (I (([] : List (List PV)).length : Nat)) (I 6) = some (Bo false) := gt_no (by omega)
  rcases Int.lt_trichotomy (c - 0 - 0 - 0 - 0) 0 with h | h | h
  · exact law_yes n d 5 c ([]) h1 h2 h3 _ _ (ch_4_0_gt c hc (gt_yes (by omega))) (RF_4_neg false false false false c hc 0 (by omega) 0 (by omega) 0 (by omega) 0 (by omega) (by omega)) (RR_4_neg false false false false c hc 0 (by omega) 0 (by omega) 0 (by omega) 0 (by omega) (by omega))
  · exact law_no n d 5 c ([]) h1 h2 h3 _ (ch_4_0_eq c hc (gt_no (by omega)) (eq_yes (by omega))) (RF_4_zf false false false false c hc 0 (by omega) 0 (by omega) 0 (by omega) 0 (by omega) (by omega) rfl)
  · exact law_no n d 5 c ([]) h1 h2 h3 _ (ch_4_0_lt c hc (gt_no (by omega)) (eq_no (by omega))) (RF_4_pos false false false false c hc 0 (by omega) 0 (by omega) 0 (by omega) 0 (by omega) (by omega))
theorem top_4_1 (n d : Int) (hd : -128 ≤ d ∧ d ≤ 127) (b0 : Int) (hh0 : 0 ≤ b0 ∧ b0 ≤ 255) (hl : ([U b0] :: [] : List (List PV)).length ≤ 6) (h2 : binV .add (I 2) (I (IntKind.i64.wrap (n.tmod 4))) = some (I 5)) : R 4 [.sc (.int .u8 n), .lst 1 ([U b0] :: []), .sc (.int .i8 d)] (Bo true) := by
  obtain ⟨c, hc, h3⟩ := last_of d hd
  obtain ⟨k0, hk0, hb0⟩ := step_of b0 hh0
  obtain ⟨f0, hf0⟩ := flag_of b0
  have h1 : binV .gtr (I (([U b0] :: [] : List (List PV)).length : Nat)) (I 6) = some (Bo false) := gt_no (by omega)
  rcases Int.lt_trichotomy (c - k0 - 0 - 0 - 0) 0 with h | h | h
  · exact law_yes n d 5 c ([U b0] :: []) h1 h2 h3 _ _ (ch_4_1_gt b0 k0 f0 c hc hk0 hb0 hf0 (gt_yes (by omega))) (RF_4_neg f0 false false false c hc k0 hk0 0 (by omega) 0 (by omega) 0 (by omega) (by omega)) (RR_4_neg f0 false false false c hc k0 hk0 0 (by omega) 0 (by omega) 0 (by omega) (by omega))
  · have hch := (ch_4_1_eq b0 k0 f0 c hc hk0 hb0 hf0 (gt_no (by omega)) (eq_yes (by omega)))
    cases hF : (f0) with
    | false =>
      rw [show (bif f0 then (1 : Int) else 0) = 0 by rw [hF]; rfl] at hch
      exact law_no n d 5 c ([U b0] :: []) h1 h2 h3 _ hch (RF_4_zf f0 false false false c hc k0 hk0 0 (by omega) 0 (by omega) 0 (by omega) (by omega) (by simpa using hF))
    | true =>
      rw [show (bif f0 then (1 : Int) else 0) = 1 by rw [hF]; rfl] at hch
      exact law_yes n d 5 c ([U b0] :: []) h1 h2 h3 _ _ hch (RF_4_zt f0 false false false c hc k0 hk0 0 (by omega) 0 (by omega) 0 (by omega) (by omega) (by simpa using hF)) (RR_4_zt f0 false false false c hc k0 hk0 0 (by omega) 0 (by omega) 0 (by omega) (by omega) (by simpa using hF))
  · exact law_no n d 5 c ([U b0] :: []) h1 h2 h3 _ (ch_4_1_lt b0 k0 f0 c hc hk0 hb0 hf0 (gt_no (by omega)) (eq_no (by omega))) (RF_4_pos f0 false false false c hc k0 hk0 0 (by omega) 0 (by omega) 0 (by omega) (by omega))
theorem top_4_2 (n d : Int) (hd : -128 ≤ d ∧ d ≤ 127) (b0 b1 : Int) (hh0 : 0 ≤ b0 ∧ b0 ≤ 255) (hh1 : 0 ≤ b1 ∧ b1 ≤ 255) (hl : ([U b0] :: [U b1] :: [] : List (List PV)).length ≤ 6) (h2 : binV .add (I 2) (I (IntKind.i64.wrap (n.tmod 4))) = some (I 5)) : R 4 [.sc (.int .u8 n), .lst 1 ([U b0] :: [U b1] :: []), .sc (.int .i8 d)] (Bo true) := by
  obtain ⟨c, hc, h3⟩ := last_of d hd
  obtain ⟨k0, hk0, hb0⟩ := step_of b0 hh0
  obtain ⟨f0, hf0⟩ := flag_of b0
  obtain ⟨k1, hk1, hb1⟩ := step_of b1 hh1
  obtain ⟨f1, hf1⟩ := flag_of b1
  have h1 : binV .gtr (I (([U b0] :: [U b1] :: [] : List (List PV)).length : Nat)) (I 6) = some (Bo false) := gt_no (by omega)
  rcases Int.lt_trichotomy (c - k0 - k1 - 0 - 0) 0 with h | h | h
  · exact law_yes n d 5 c ([U b0] :: [U b1] :: []) h1 h2 h3 _ _ (ch_4_2_gt b0 b1 k0 k1 f0 f1 c hc hk0 hb0 hf0 hk1 hb1 hf1 (gt_yes (by omega))) (RF_4_neg f0 f1 false false c hc k0 hk0 k1 hk1 0 (by omega) 0 (by omega) (by omega)) (RR_4_neg f0 f1 false false c hc k0 hk0 k1 hk1 0 (by omega) 0 (by omega) (by omega))
  · have hch := (ch_4_2_eq b0 b1 k0 k1 f0 f1 c hc hk0 hb0 hf0 hk1 hb1 hf1 (gt_no (by omega)) (eq_yes (by omega)))
    cases hF : (f0 || f1) with
    | false =>
      rw [show (bif f0 || f1 then (1 : Int) else 0) = 0 by rw [hF]; rfl] at hch
      exact law_no n d 5 c ([U b0] :: [U b1] :: []) h1 h2 h3 _ hch (RF_4_zf f0 f1 false false c hc k0 hk0 k1 hk1 0 (by omega) 0 (by omega) (by omega) (by simpa using hF))
    | true =>
      rw [show (bif f0 || f1 then (1 : Int) else 0) = 1 by rw [hF]; rfl] at hch
      exact law_yes n d 5 c ([U b0] :: [U b1] :: []) h1 h2 h3 _ _ hch (RF_4_zt f0 f1 false false c hc k0 hk0 k1 hk1 0 (by omega) 0 (by omega) (by omega) (by simpa using hF)) (RR_4_zt f0 f1 false false c hc k0 hk0 k1 hk1 0 (by omega) 0 (by omega) (by omega) (by simpa using hF))
  · exact law_no n d 5 c ([U b0] :: [U b1] :: []) h1 h2 h3 _ (ch_4_2_lt b0 b1 k0 k1 f0 f1 c hc hk0 hb0 hf0 hk1 hb1 hf1 (gt_no (by omega)) (eq_no (by omega))) (RF_4_pos f0 f1 false false c hc k0 hk0 k1 hk1 0 (by omega) 0 (by omega) (by omega))
theorem top_4_3 (n d : Int) (hd : -128 ≤ d ∧ d ≤ 127) (b0 b1 b2 : Int) (hh0 : 0 ≤ b0 ∧ b0 ≤ 255) (hh1 : 0 ≤ b1 ∧ b1 ≤ 255) (hh2 : 0 ≤ b2 ∧ b2 ≤ 255) (hl : ([U b0] :: [U b1] :: [U b2] :: [] : List (List PV)).length ≤ 6) (h2 : binV .add (I 2) (I (IntKind.i64.wrap (n.tmod 4))) = some (I 5)) : R 4 [.sc (.int .u8 n), .lst 1 ([U b0] :: [U b1] :: [U b2] :: []), .sc (.int .i8 d)] (Bo true) := by
  obtain ⟨c, hc, h3⟩ := last_of d hd
  obtain ⟨k0, hk0, hb0⟩ := step_of b0 hh0
  obtain ⟨f0, hf0⟩ := flag_of b0
  obtain ⟨k1, hk1, hb1⟩ := step_of b1 hh1
  obtain ⟨f1, hf1⟩ := flag_of b1
  obtain ⟨k2, hk2, hb2⟩ := step_of b2 hh2
  obtain ⟨f2, hf2⟩ := flag_of b2
  have h1 : binV .gtr (I (([U b0] :: [U b1] :: [U b2] :: [] : List (List PV)).length : Nat)) (I 6) = some (Bo false) := gt_no (by omega)
  rcases Int.lt_trichotomy (c - k0 - k1 - k2 - 0) 0 with h | h | h
  · exact law_yes n d 5 c ([U b0] :: [U b1] :: [U b2] :: []) h1 h2 h3 _ _ (ch_4_3_gt b0 b1 b2 k0 k1 k2 f0 f1 f2 c hc hk0 hb0 hf0 hk1 hb1 hf1 hk2 hb2 hf2 (gt_yes (by omega))) (RF_4_neg f0 f1 f2 false c hc k0 hk0 k1 hk1 k2 hk2 0 (by omega) (by omega)) (RR_4_neg f0 f1 f2 false c hc k0 hk0 k1 hk1 k2 hk2 0 (by omega) (by omega))
  · have hch := (ch_4_3_eq b0 b1 b2 k0 k1 k2 f0 f1 f2 c hc hk0 hb0 hf0 hk1 hb1 hf1 hk2 hb2 hf2 (gt_no (by omega)) (eq_yes (by omega)))
    cases hF : (f0 || f1 || f2) with
    | false =>
      rw [show (bif f0 || f1 || f2 then (1 : Int) else 0) = 0 by rw [hF]; rfl] at hch
      exact law_no n d 5 c ([U b0] :: [U b1] :: [U b2] :: []) h1 h2 h3 _ hch (RF_4_zf f0 f1 f2 false c hc k0 hk0 k1 hk1 k2 hk2 0 (by omega) (by omega) (by simpa using hF))
    | true =>
      rw [show (bif f0 || f1 || f2 then (1 : Int) else 0) = 1 by rw [hF]; rfl] at hch
      exact law_yes n d 5 c ([U b0] :: [U b1] :: [U b2] :: []) h1 h2 h3 _ _ hch (RF_4_zt f0 f1 f2 false c hc k0 hk0 k1 hk1 k2 hk2 0 (by omega) (by omega) (by simpa using hF)) (RR_4_zt f0 f1 f2 false c hc k0 hk0 k1 hk1 k2 hk2 0 (by omega) (by omega) (by simpa using hF))
  · exact law_no n d 5 c ([U b0] :: [U b1] :: [U b2] :: []) h1 h2 h3 _ (ch_4_3_lt b0 b1 b2 k0 k1 k2 f0 f1 f2 c hc hk0 hb0 hf0 hk1 hb1 hf1 hk2 hb2 hf2 (gt_no (by omega)) (eq_no (by omega))) (RF_4_pos f0 f1 f2 false c hc k0 hk0 k1 hk1 k2 hk2 0 (by omega) (by omega))
theorem top_4_4 (n d : Int) (hd : -128 ≤ d ∧ d ≤ 127) (b0 b1 b2 b3 : Int) (hh0 : 0 ≤ b0 ∧ b0 ≤ 255) (hh1 : 0 ≤ b1 ∧ b1 ≤ 255) (hh2 : 0 ≤ b2 ∧ b2 ≤ 255) (hh3 : 0 ≤ b3 ∧ b3 ≤ 255) (rest : List (List PV)) (hl : ([U b0] :: [U b1] :: [U b2] :: [U b3] :: rest : List (List PV)).length ≤ 6) (h2 : binV .add (I 2) (I (IntKind.i64.wrap (n.tmod 4))) = some (I 5)) : R 4 [.sc (.int .u8 n), .lst 1 ([U b0] :: [U b1] :: [U b2] :: [U b3] :: rest), .sc (.int .i8 d)] (Bo true) := by
  obtain ⟨c, hc, h3⟩ := last_of d hd
  obtain ⟨k0, hk0, hb0⟩ := step_of b0 hh0
  obtain ⟨f0, hf0⟩ := flag_of b0
  obtain ⟨k1, hk1, hb1⟩ := step_of b1 hh1
  obtain ⟨f1, hf1⟩ := flag_of b1
  obtain ⟨k2, hk2, hb2⟩ := step_of b2 hh2
  obtain ⟨f2, hf2⟩ := flag_of b2
  obtain ⟨k3, hk3, hb3⟩ := step_of b3 hh3
  obtain ⟨f3, hf3⟩ := flag_of b3
  have h1 : binV .gtr (I (([U b0] :: [U b1] :: [U b2] :: [U b3] :: rest : List (List PV)).length : Nat)) (I 6) = some (Bo false) := gt_no (by omega)
  rcases Int.lt_trichotomy (c - k0 - k1 - k2 - k3) 0 with h | h | h
  · exact law_yes n d 5 c ([U b0] :: [U b1] :: [U b2] :: [U b3] :: rest) h1 h2 h3 _ _ (ch_4_4_gt b0 b1 b2 b3 k0 k1 k2 k3 f0 f1 f2 f3 rest c hc hk0 hb0 hf0 hk1 hb1 hf1 hk2 hb2 hf2 hk3 hb3 hf3 (gt_yes (by omega))) (RF_4_neg f0 f1 f2 f3 c hc k0 hk0 k1 hk1 k2 hk2 k3 hk3 (by omega)) (RR_4_neg f0 f1 f2 f3 c hc k0 hk0 k1 hk1 k2 hk2 k3 hk3 (by omega))
  · have hch := (ch_4_4_eq b0 b1 b2 b3 k0 k1 k2 k3 f0 f1 f2 f3 rest c hc hk0 hb0 hf0 hk1 hb1 hf1 hk2 hb2 hf2 hk3 hb3 hf3 (gt_no (by omega)) (eq_yes (by omega)))
    cases hF : (f0 || f1 || f2 || f3) with
    | false =>
      rw [show (bif f0 || f1 || f2 || f3 then (1 : Int) else 0) = 0 by rw [hF]; rfl] at hch
      exact law_no n d 5 c ([U b0] :: [U b1] :: [U b2] :: [U b3] :: rest) h1 h2 h3 _ hch (RF_4_zf f0 f1 f2 f3 c hc k0 hk0 k1 hk1 k2 hk2 k3 hk3 (by omega) (by simpa using hF))
    | true =>
      rw [show (bif f0 || f1 || f2 || f3 then (1 : Int) else 0) = 1 by rw [hF]; rfl] at hch
      exact law_yes n d 5 c ([U b0] :: [U b1] :: [U b2] :: [U b3] :: rest) h1 h2 h3 _ _ hch (RF_4_zt f0 f1 f2 f3 c hc k0 hk0 k1 hk1 k2 hk2 k3 hk3 (by omega) (by simpa using hF)) (RR_4_zt f0 f1 f2 f3 c hc k0 hk0 k1 hk1 k2 hk2 k3 hk3 (by omega) (by simpa using hF))
  · exact law_no n d 5 c ([U b0] :: [U b1] :: [U b2] :: [U b3] :: rest) h1 h2 h3 _ (ch_4_4_lt b0 b1 b2 b3 k0 k1 k2 k3 f0 f1 f2 f3 rest c hc hk0 hb0 hf0 hk1 hb1 hf1 hk2 hb2 hf2 hk3 hb3 hf3 (gt_no (by omega)) (eq_no (by omega))) (RF_4_pos f0 f1 f2 f3 c hc k0 hk0 k1 hk1 k2 hk2 k3 hk3 (by omega))
theorem top_4_n (n d : Int) (hd : -128 ≤ d ∧ d ≤ 127) (h2 : binV .add (I 2) (I (IntKind.i64.wrap (n.tmod 4))) = some (I 5)) : R 4 [.sc (.int .u8 n), nils, .sc (.int .i8 d)] (Bo true) := by
  obtain ⟨c, hc, h3⟩ := last_of d hd
  rcases Int.lt_trichotomy (c - 0 - 0 - 0 - 0) 0 with h | h | h
  · exact law_yes_n n d 5 c h2 h3 _ _ (ch_4_n_gt c hc (gt_yes (by omega))) (RF_4_neg false false false false c hc 0 (by omega) 0 (by omega) 0 (by omega) 0 (by omega) (by omega)) (RR_4_neg false false false false c hc 0 (by omega) 0 (by omega) 0 (by omega) 0 (by omega) (by omega))
  · exact law_no_n n d 5 c h2 h3 _ (ch_4_n_eq c hc (gt_no (by omega)) (eq_yes (by omega))) (RF_4_zf false false false false c hc 0 (by omega) 0 (by omega) 0 (by omega) 0 (by omega) (by omega) rfl)
  · exact law_no_n n d 5 c h2 h3 _ (ch_4_n_lt c hc (gt_no (by omega)) (eq_no (by omega))) (RF_4_pos false false false false c hc 0 (by omega) 0 (by omega) 0 (by omega) 0 (by omega) (by omega))

/-- The law, for a slice that is not nil. -/
theorem law_lst (n d : Int) (hn : 0 ≤ n ∧ n ≤ 255) (hd : -128 ≤ d ∧ d ≤ 127) (bs : List Int) (hb : ∀ b ∈ bs, 0 ≤ b ∧ b ≤ 255) : R 4 [.sc (.int .u8 n), .lst 1 (bs.map fun b => [U b]), .sc (.int .i8 d)] (Bo true) := by
  by_cases hlen : bs.length ≤ 6
  · obtain ⟨r, hr, h2⟩ := many_of n hn
    have hl : (bs.map fun b => [U b]).length ≤ 6 := by simpa using hlen
    match r, hr, h2 with
    | 0, _, h2 =>
      match bs, hb, hl with
      | [], hb, hl => exact top_1_0 n d hd   hl h2
      | b0 :: rest, hb, hl => exact top_1_1 n d hd b0 (hb b0 (by simp)) (rest.map fun b => [U b]) hl h2
    | 1, _, h2 =>
      match bs, hb, hl with
      | [], hb, hl => exact top_2_0 n d hd   hl h2
      | b0 :: [], hb, hl => exact top_2_1 n d hd b0 (hb b0 (by simp)) hl h2
      | b0 :: b1 :: rest, hb, hl => exact top_2_2 n d hd b0 b1 (hb b0 (by simp)) (hb b1 (by simp)) (rest.map fun b => [U b]) hl h2
    | 2, _, h2 =>
      match bs, hb, hl with
      | [], hb, hl => exact top_3_0 n d hd   hl h2
      | b0 :: [], hb, hl => exact top_3_1 n d hd b0 (hb b0 (by simp)) hl h2
      | b0 :: b1 :: [], hb, hl => exact top_3_2 n d hd b0 b1 (hb b0 (by simp)) (hb b1 (by simp)) hl h2
      | b0 :: b1 :: b2 :: rest, hb, hl => exact top_3_3 n d hd b0 b1 b2 (hb b0 (by simp)) (hb b1 (by simp)) (hb b2 (by simp)) (rest.map fun b => [U b]) hl h2
    | 3, _, h2 =>
      match bs, hb, hl with
      | [], hb, hl => exact top_4_0 n d hd   hl h2
      | b0 :: [], hb, hl => exact top_4_1 n d hd b0 (hb b0 (by simp)) hl h2
      | b0 :: b1 :: [], hb, hl => exact top_4_2 n d hd b0 b1 (hb b0 (by simp)) (hb b1 (by simp)) hl h2
      | b0 :: b1 :: b2 :: [], hb, hl => exact top_4_3 n d hd b0 b1 b2 (hb b0 (by simp)) (hb b1 (by simp)) (hb b2 (by simp)) hl h2
      | b0 :: b1 :: b2 :: b3 :: rest, hb, hl => exact top_4_4 n d hd b0 b1 b2 b3 (hb b0 (by simp)) (hb b1 (by simp)) (hb b2 (by simp)) (hb b3 (by simp)) (rest.map fun b => [U b]) hl h2
    | r + 4, hr, _ => exact absurd hr (by omega)
  · exact law_long n d _ (gt_yes (by simp; omega))
theorem law_nil (n d : Int) (hn : 0 ≤ n ∧ n ≤ 255) (hd : -128 ≤ d ∧ d ≤ 127) : R 4 [.sc (.int .u8 n), nils, .sc (.int .i8 d)] (Bo true) := by
  obtain ⟨r, hr, h2⟩ := many_of n hn
  match r, hr, h2 with
  | 0, _, h2 => exact top_1_n n d hd h2
  | 1, _, h2 => exact top_2_n n d hd h2
  | 2, _, h2 => exact top_3_n n d hd h2
  | 3, _, h2 => exact top_4_n n d hd h2
  | r + 4, hr, _ => exact absurd hr (by omega)
end Go.Proofs.YthiipifjdfmblaaGreatDoor
