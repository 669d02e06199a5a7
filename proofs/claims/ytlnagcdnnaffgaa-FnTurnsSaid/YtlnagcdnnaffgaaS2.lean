/-
  Seeds from 1 on: within 40 pairs one is hit.
-/
import Derived.Test.YtlnagcdnnaffgaaSimd
namespace Go.Proofs.Ytlnagcdnnaffgaa
namespace Simd
theorem tS2_0 : chk B2 (2 ^ 14) (2147483647 * one 14) (131071 * one 14) (one 14) (idx 14) 50 1 = true := by kernel_rfl
theorem cS2_0 : cov b2 1 819201 := cov2 tS2_0 (by decide) (by decide)
theorem tS2_1 : chk B2 (2 ^ 14) (2147483647 * one 14) (131071 * one 14) (one 14) (idx 14) 50 819201 = true := by kernel_rfl
theorem cS2_1 : cov b2 1 1638401 := cov_trans cS2_0 (cov2 tS2_1 (by decide) (by decide))
theorem tS2_2 : chk B2 (2 ^ 14) (2147483647 * one 14) (131071 * one 14) (one 14) (idx 14) 50 1638401 = true := by kernel_rfl
theorem cS2_2 : cov b2 1 2457601 := cov_trans cS2_1 (cov2 tS2_2 (by decide) (by decide))
theorem tS2_3 : chk B2 (2 ^ 14) (2147483647 * one 14) (131071 * one 14) (one 14) (idx 14) 50 2457601 = true := by kernel_rfl
theorem cS2_3 : cov b2 1 3276801 := cov_trans cS2_2 (cov2 tS2_3 (by decide) (by decide))
theorem tS2_4 : chk B2 (2 ^ 14) (2147483647 * one 14) (131071 * one 14) (one 14) (idx 14) 50 3276801 = true := by kernel_rfl
theorem cS2_4 : cov b2 1 4096001 := cov_trans cS2_3 (cov2 tS2_4 (by decide) (by decide))
theorem tS2_5 : chk B2 (2 ^ 14) (2147483647 * one 14) (131071 * one 14) (one 14) (idx 14) 50 4096001 = true := by kernel_rfl
theorem cS2_5 : cov b2 1 4915201 := cov_trans cS2_4 (cov2 tS2_5 (by decide) (by decide))
theorem tS2_6 : chk B2 (2 ^ 14) (2147483647 * one 14) (131071 * one 14) (one 14) (idx 14) 50 4915201 = true := by kernel_rfl
theorem cS2_6 : cov b2 1 5734401 := cov_trans cS2_5 (cov2 tS2_6 (by decide) (by decide))
theorem tS2_7 : chk B2 (2 ^ 14) (2147483647 * one 14) (131071 * one 14) (one 14) (idx 14) 50 5734401 = true := by kernel_rfl
theorem cS2_7 : cov b2 1 6553601 := cov_trans cS2_6 (cov2 tS2_7 (by decide) (by decide))
theorem tS2_8 : chk B2 (2 ^ 14) (2147483647 * one 14) (131071 * one 14) (one 14) (idx 14) 50 6553601 = true := by kernel_rfl
theorem cS2_8 : cov b2 1 7372801 := cov_trans cS2_7 (cov2 tS2_8 (by decide) (by decide))
theorem tS2_9 : chk B2 (2 ^ 14) (2147483647 * one 14) (131071 * one 14) (one 14) (idx 14) 50 7372801 = true := by kernel_rfl
theorem cS2_9 : cov b2 1 8192001 := cov_trans cS2_8 (cov2 tS2_9 (by decide) (by decide))
theorem tS2_10 : chk B2 (2 ^ 14) (2147483647 * one 14) (131071 * one 14) (one 14) (idx 14) 50 8192001 = true := by kernel_rfl
theorem cS2_10 : cov b2 1 9011201 := cov_trans cS2_9 (cov2 tS2_10 (by decide) (by decide))
theorem tS2_11 : chk B2 (2 ^ 14) (2147483647 * one 14) (131071 * one 14) (one 14) (idx 14) 50 9011201 = true := by kernel_rfl
theorem cS2_11 : cov b2 1 9830401 := cov_trans cS2_10 (cov2 tS2_11 (by decide) (by decide))
theorem tS2_12 : chk B2 (2 ^ 14) (2147483647 * one 14) (131071 * one 14) (one 14) (idx 14) 50 9830401 = true := by kernel_rfl
theorem cS2_12 : cov b2 1 10649601 := cov_trans cS2_11 (cov2 tS2_12 (by decide) (by decide))
theorem tS2_13 : chk B2 (2 ^ 14) (2147483647 * one 14) (131071 * one 14) (one 14) (idx 14) 50 10649601 = true := by kernel_rfl
theorem cS2_13 : cov b2 1 11468801 := cov_trans cS2_12 (cov2 tS2_13 (by decide) (by decide))
theorem tS2_14 : chk B2 (2 ^ 14) (2147483647 * one 14) (131071 * one 14) (one 14) (idx 14) 50 11468801 = true := by kernel_rfl
theorem cS2_14 : cov b2 1 12288001 := cov_trans cS2_13 (cov2 tS2_14 (by decide) (by decide))
theorem tS2_15 : chk B2 (2 ^ 14) (2147483647 * one 14) (131071 * one 14) (one 14) (idx 14) 50 12288001 = true := by kernel_rfl
theorem cS2_15 : cov b2 1 13107201 := cov_trans cS2_14 (cov2 tS2_15 (by decide) (by decide))
theorem tS2_16 : chk B2 (2 ^ 14) (2147483647 * one 14) (131071 * one 14) (one 14) (idx 14) 50 13107201 = true := by kernel_rfl
theorem cS2_16 : cov b2 1 13926401 := cov_trans cS2_15 (cov2 tS2_16 (by decide) (by decide))
theorem tS2_17 : chk B2 (2 ^ 14) (2147483647 * one 14) (131071 * one 14) (one 14) (idx 14) 50 13926401 = true := by kernel_rfl
theorem cS2_17 : cov b2 1 14745601 := cov_trans cS2_16 (cov2 tS2_17 (by decide) (by decide))
theorem tS2_18 : chk B2 (2 ^ 14) (2147483647 * one 14) (131071 * one 14) (one 14) (idx 14) 50 14745601 = true := by kernel_rfl
theorem cS2_18 : cov b2 1 15564801 := cov_trans cS2_17 (cov2 tS2_18 (by decide) (by decide))
theorem tS2_19 : chk B2 (2 ^ 14) (2147483647 * one 14) (131071 * one 14) (one 14) (idx 14) 50 15564801 = true := by kernel_rfl
theorem cS2_19 : cov b2 1 16384001 := cov_trans cS2_18 (cov2 tS2_19 (by decide) (by decide))
theorem tS2_20 : chk B2 (2 ^ 14) (2147483647 * one 14) (131071 * one 14) (one 14) (idx 14) 50 16384001 = true := by kernel_rfl
theorem cS2_20 : cov b2 1 17203201 := cov_trans cS2_19 (cov2 tS2_20 (by decide) (by decide))
theorem tS2_21 : chk B2 (2 ^ 14) (2147483647 * one 14) (131071 * one 14) (one 14) (idx 14) 50 17203201 = true := by kernel_rfl
theorem cS2_21 : cov b2 1 18022401 := cov_trans cS2_20 (cov2 tS2_21 (by decide) (by decide))
theorem tS2_22 : chk B2 (2 ^ 14) (2147483647 * one 14) (131071 * one 14) (one 14) (idx 14) 50 18022401 = true := by kernel_rfl
theorem cS2_22 : cov b2 1 18841601 := cov_trans cS2_21 (cov2 tS2_22 (by decide) (by decide))
theorem tS2_23 : chk B2 (2 ^ 14) (2147483647 * one 14) (131071 * one 14) (one 14) (idx 14) 50 18841601 = true := by kernel_rfl
theorem cS2_23 : cov b2 1 19660801 := cov_trans cS2_22 (cov2 tS2_23 (by decide) (by decide))
theorem tS2_24 : chk B2 (2 ^ 14) (2147483647 * one 14) (131071 * one 14) (one 14) (idx 14) 50 19660801 = true := by kernel_rfl
theorem cS2_24 : cov b2 1 20480001 := cov_trans cS2_23 (cov2 tS2_24 (by decide) (by decide))
theorem tS2_25 : chk B2 (2 ^ 14) (2147483647 * one 14) (131071 * one 14) (one 14) (idx 14) 50 20480001 = true := by kernel_rfl
theorem cS2_25 : cov b2 1 21299201 := cov_trans cS2_24 (cov2 tS2_25 (by decide) (by decide))
theorem tS2_26 : chk B2 (2 ^ 14) (2147483647 * one 14) (131071 * one 14) (one 14) (idx 14) 50 21299201 = true := by kernel_rfl
theorem cS2_26 : cov b2 1 22118401 := cov_trans cS2_25 (cov2 tS2_26 (by decide) (by decide))
theorem tS2_27 : chk B2 (2 ^ 14) (2147483647 * one 14) (131071 * one 14) (one 14) (idx 14) 50 22118401 = true := by kernel_rfl
theorem cS2_27 : cov b2 1 22937601 := cov_trans cS2_26 (cov2 tS2_27 (by decide) (by decide))
theorem tS2_28 : chk B2 (2 ^ 14) (2147483647 * one 14) (131071 * one 14) (one 14) (idx 14) 50 22937601 = true := by kernel_rfl
theorem cS2_28 : cov b2 1 23756801 := cov_trans cS2_27 (cov2 tS2_28 (by decide) (by decide))
theorem tS2_29 : chk B2 (2 ^ 14) (2147483647 * one 14) (131071 * one 14) (one 14) (idx 14) 50 23756801 = true := by kernel_rfl
theorem cS2_29 : cov b2 1 24576001 := cov_trans cS2_28 (cov2 tS2_29 (by decide) (by decide))
theorem tS2_30 : chk B2 (2 ^ 14) (2147483647 * one 14) (131071 * one 14) (one 14) (idx 14) 50 24576001 = true := by kernel_rfl
theorem cS2_30 : cov b2 1 25395201 := cov_trans cS2_29 (cov2 tS2_30 (by decide) (by decide))
theorem tS2_31 : chk B2 (2 ^ 14) (2147483647 * one 14) (131071 * one 14) (one 14) (idx 14) 50 25395201 = true := by kernel_rfl
theorem cS2_31 : cov b2 1 26214401 := cov_trans cS2_30 (cov2 tS2_31 (by decide) (by decide))
theorem tS2_32 : chk B2 (2 ^ 14) (2147483647 * one 14) (131071 * one 14) (one 14) (idx 14) 50 26214401 = true := by kernel_rfl
theorem cS2_32 : cov b2 1 27033601 := cov_trans cS2_31 (cov2 tS2_32 (by decide) (by decide))
theorem tS2_33 : chk B2 (2 ^ 14) (2147483647 * one 14) (131071 * one 14) (one 14) (idx 14) 50 27033601 = true := by kernel_rfl
theorem cS2_33 : cov b2 1 27852801 := cov_trans cS2_32 (cov2 tS2_33 (by decide) (by decide))
theorem tS2_34 : chk B2 (2 ^ 14) (2147483647 * one 14) (131071 * one 14) (one 14) (idx 14) 50 27852801 = true := by kernel_rfl
theorem cS2_34 : cov b2 1 28672001 := cov_trans cS2_33 (cov2 tS2_34 (by decide) (by decide))
theorem tS2_35 : chk B2 (2 ^ 14) (2147483647 * one 14) (131071 * one 14) (one 14) (idx 14) 50 28672001 = true := by kernel_rfl
theorem cS2_35 : cov b2 1 29491201 := cov_trans cS2_34 (cov2 tS2_35 (by decide) (by decide))
theorem tS2_36 : chk B2 (2 ^ 14) (2147483647 * one 14) (131071 * one 14) (one 14) (idx 14) 50 29491201 = true := by kernel_rfl
theorem cS2_36 : cov b2 1 30310401 := cov_trans cS2_35 (cov2 tS2_36 (by decide) (by decide))
theorem tS2_37 : chk B2 (2 ^ 14) (2147483647 * one 14) (131071 * one 14) (one 14) (idx 14) 50 30310401 = true := by kernel_rfl
theorem cS2_37 : cov b2 1 31129601 := cov_trans cS2_36 (cov2 tS2_37 (by decide) (by decide))
theorem tS2_38 : chk B2 (2 ^ 14) (2147483647 * one 14) (131071 * one 14) (one 14) (idx 14) 50 31129601 = true := by kernel_rfl
theorem cS2_38 : cov b2 1 31948801 := cov_trans cS2_37 (cov2 tS2_38 (by decide) (by decide))
theorem tS2_39 : chk B2 (2 ^ 14) (2147483647 * one 14) (131071 * one 14) (one 14) (idx 14) 50 31948801 = true := by kernel_rfl
theorem cS2_39 : cov b2 1 32768001 := cov_trans cS2_38 (cov2 tS2_39 (by decide) (by decide))
theorem tS2_40 : chk B2 (2 ^ 14) (2147483647 * one 14) (131071 * one 14) (one 14) (idx 14) 50 32768001 = true := by kernel_rfl
theorem cS2_40 : cov b2 1 33587201 := cov_trans cS2_39 (cov2 tS2_40 (by decide) (by decide))
theorem tS2_41 : chk B2 (2 ^ 14) (2147483647 * one 14) (131071 * one 14) (one 14) (idx 14) 50 33587201 = true := by kernel_rfl
theorem cS2_41 : cov b2 1 34406401 := cov_trans cS2_40 (cov2 tS2_41 (by decide) (by decide))
theorem tS2_42 : chk B2 (2 ^ 14) (2147483647 * one 14) (131071 * one 14) (one 14) (idx 14) 50 34406401 = true := by kernel_rfl
theorem cS2_42 : cov b2 1 35225601 := cov_trans cS2_41 (cov2 tS2_42 (by decide) (by decide))
theorem tS2_43 : chk B2 (2 ^ 14) (2147483647 * one 14) (131071 * one 14) (one 14) (idx 14) 50 35225601 = true := by kernel_rfl
theorem cS2_43 : cov b2 1 36044801 := cov_trans cS2_42 (cov2 tS2_43 (by decide) (by decide))
theorem tS2_44 : chk B2 (2 ^ 14) (2147483647 * one 14) (131071 * one 14) (one 14) (idx 14) 50 36044801 = true := by kernel_rfl
theorem cS2_44 : cov b2 1 36864001 := cov_trans cS2_43 (cov2 tS2_44 (by decide) (by decide))
theorem tS2_45 : chk B2 (2 ^ 14) (2147483647 * one 14) (131071 * one 14) (one 14) (idx 14) 50 36864001 = true := by kernel_rfl
theorem cS2_45 : cov b2 1 37683201 := cov_trans cS2_44 (cov2 tS2_45 (by decide) (by decide))
theorem tS2_46 : chk B2 (2 ^ 14) (2147483647 * one 14) (131071 * one 14) (one 14) (idx 14) 50 37683201 = true := by kernel_rfl
theorem cS2_46 : cov b2 1 38502401 := cov_trans cS2_45 (cov2 tS2_46 (by decide) (by decide))
theorem tS2_47 : chk B2 (2 ^ 14) (2147483647 * one 14) (131071 * one 14) (one 14) (idx 14) 50 38502401 = true := by kernel_rfl
theorem cS2_47 : cov b2 1 39321601 := cov_trans cS2_46 (cov2 tS2_47 (by decide) (by decide))
theorem tS2_48 : chk B2 (2 ^ 14) (2147483647 * one 14) (131071 * one 14) (one 14) (idx 14) 50 39321601 = true := by kernel_rfl
theorem cS2_48 : cov b2 1 40140801 := cov_trans cS2_47 (cov2 tS2_48 (by decide) (by decide))
theorem tS2_49 : chk B2 (2 ^ 14) (2147483647 * one 14) (131071 * one 14) (one 14) (idx 14) 50 40140801 = true := by kernel_rfl
theorem cS2_49 : cov b2 1 40960001 := cov_trans cS2_48 (cov2 tS2_49 (by decide) (by decide))
theorem tS2_50 : chk B2 (2 ^ 14) (2147483647 * one 14) (131071 * one 14) (one 14) (idx 14) 50 40960001 = true := by kernel_rfl
theorem cS2_50 : cov b2 1 41779201 := cov_trans cS2_49 (cov2 tS2_50 (by decide) (by decide))
theorem tS2_51 : chk B2 (2 ^ 14) (2147483647 * one 14) (131071 * one 14) (one 14) (idx 14) 50 41779201 = true := by kernel_rfl
theorem cS2_51 : cov b2 1 42598401 := cov_trans cS2_50 (cov2 tS2_51 (by decide) (by decide))
theorem tS2_52 : chk B2 (2 ^ 14) (2147483647 * one 14) (131071 * one 14) (one 14) (idx 14) 50 42598401 = true := by kernel_rfl
theorem cS2_52 : cov b2 1 43417601 := cov_trans cS2_51 (cov2 tS2_52 (by decide) (by decide))
theorem tS2_53 : chk B2 (2 ^ 14) (2147483647 * one 14) (131071 * one 14) (one 14) (idx 14) 50 43417601 = true := by kernel_rfl
theorem cS2_53 : cov b2 1 44236801 := cov_trans cS2_52 (cov2 tS2_53 (by decide) (by decide))
theorem tS2_54 : chk B2 (2 ^ 14) (2147483647 * one 14) (131071 * one 14) (one 14) (idx 14) 50 44236801 = true := by kernel_rfl
theorem cS2_54 : cov b2 1 45056001 := cov_trans cS2_53 (cov2 tS2_54 (by decide) (by decide))
theorem tS2_55 : chk B2 (2 ^ 14) (2147483647 * one 14) (131071 * one 14) (one 14) (idx 14) 50 45056001 = true := by kernel_rfl
theorem cS2_55 : cov b2 1 45875201 := cov_trans cS2_54 (cov2 tS2_55 (by decide) (by decide))
theorem tS2_56 : chk B2 (2 ^ 14) (2147483647 * one 14) (131071 * one 14) (one 14) (idx 14) 50 45875201 = true := by kernel_rfl
theorem cS2_56 : cov b2 1 46694401 := cov_trans cS2_55 (cov2 tS2_56 (by decide) (by decide))
theorem tS2_57 : chk B2 (2 ^ 14) (2147483647 * one 14) (131071 * one 14) (one 14) (idx 14) 50 46694401 = true := by kernel_rfl
theorem cS2_57 : cov b2 1 47513601 := cov_trans cS2_56 (cov2 tS2_57 (by decide) (by decide))
theorem tS2_58 : chk B2 (2 ^ 14) (2147483647 * one 14) (131071 * one 14) (one 14) (idx 14) 50 47513601 = true := by kernel_rfl
theorem cS2_58 : cov b2 1 48332801 := cov_trans cS2_57 (cov2 tS2_58 (by decide) (by decide))
theorem tS2_59 : chk B2 (2 ^ 14) (2147483647 * one 14) (131071 * one 14) (one 14) (idx 14) 50 48332801 = true := by kernel_rfl
theorem cS2_59 : cov b2 1 49152001 := cov_trans cS2_58 (cov2 tS2_59 (by decide) (by decide))
theorem tS2_60 : chk B2 (2 ^ 14) (2147483647 * one 14) (131071 * one 14) (one 14) (idx 14) 50 49152001 = true := by kernel_rfl
theorem cS2_60 : cov b2 1 49971201 := cov_trans cS2_59 (cov2 tS2_60 (by decide) (by decide))
theorem tS2_61 : chk B2 (2 ^ 14) (2147483647 * one 14) (131071 * one 14) (one 14) (idx 14) 50 49971201 = true := by kernel_rfl
theorem cS2_61 : cov b2 1 50790401 := cov_trans cS2_60 (cov2 tS2_61 (by decide) (by decide))
theorem tS2_62 : chk B2 (2 ^ 14) (2147483647 * one 14) (131071 * one 14) (one 14) (idx 14) 50 50790401 = true := by kernel_rfl
theorem cS2_62 : cov b2 1 51609601 := cov_trans cS2_61 (cov2 tS2_62 (by decide) (by decide))
theorem tS2_63 : chk B2 (2 ^ 14) (2147483647 * one 14) (131071 * one 14) (one 14) (idx 14) 50 51609601 = true := by kernel_rfl
theorem cS2_63 : cov b2 1 52428801 := cov_trans cS2_62 (cov2 tS2_63 (by decide) (by decide))
theorem tS2_64 : chk B2 (2 ^ 14) (2147483647 * one 14) (131071 * one 14) (one 14) (idx 14) 50 52428801 = true := by kernel_rfl
theorem cS2_64 : cov b2 1 53248001 := cov_trans cS2_63 (cov2 tS2_64 (by decide) (by decide))
theorem tS2_65 : chk B2 (2 ^ 14) (2147483647 * one 14) (131071 * one 14) (one 14) (idx 14) 50 53248001 = true := by kernel_rfl
theorem cS2_65 : cov b2 1 54067201 := cov_trans cS2_64 (cov2 tS2_65 (by decide) (by decide))
theorem tS2_66 : chk B2 (2 ^ 14) (2147483647 * one 14) (131071 * one 14) (one 14) (idx 14) 50 54067201 = true := by kernel_rfl
theorem cS2_66 : cov b2 1 54886401 := cov_trans cS2_65 (cov2 tS2_66 (by decide) (by decide))
theorem tS2_67 : chk B2 (2 ^ 14) (2147483647 * one 14) (131071 * one 14) (one 14) (idx 14) 50 54886401 = true := by kernel_rfl
theorem cS2_67 : cov b2 1 55705601 := cov_trans cS2_66 (cov2 tS2_67 (by decide) (by decide))
theorem tS2_68 : chk B2 (2 ^ 14) (2147483647 * one 14) (131071 * one 14) (one 14) (idx 14) 50 55705601 = true := by kernel_rfl
theorem cS2_68 : cov b2 1 56524801 := cov_trans cS2_67 (cov2 tS2_68 (by decide) (by decide))
theorem tS2_69 : chk B2 (2 ^ 14) (2147483647 * one 14) (131071 * one 14) (one 14) (idx 14) 50 56524801 = true := by kernel_rfl
theorem cS2_69 : cov b2 1 57344001 := cov_trans cS2_68 (cov2 tS2_69 (by decide) (by decide))
theorem tS2_70 : chk B2 (2 ^ 14) (2147483647 * one 14) (131071 * one 14) (one 14) (idx 14) 50 57344001 = true := by kernel_rfl
theorem cS2_70 : cov b2 1 58163201 := cov_trans cS2_69 (cov2 tS2_70 (by decide) (by decide))
theorem tS2_71 : chk B2 (2 ^ 14) (2147483647 * one 14) (131071 * one 14) (one 14) (idx 14) 50 58163201 = true := by kernel_rfl
theorem cS2_71 : cov b2 1 58982401 := cov_trans cS2_70 (cov2 tS2_71 (by decide) (by decide))
theorem tS2_72 : chk B2 (2 ^ 14) (2147483647 * one 14) (131071 * one 14) (one 14) (idx 14) 50 58982401 = true := by kernel_rfl
theorem cS2_72 : cov b2 1 59801601 := cov_trans cS2_71 (cov2 tS2_72 (by decide) (by decide))
theorem tS2_73 : chk B2 (2 ^ 14) (2147483647 * one 14) (131071 * one 14) (one 14) (idx 14) 50 59801601 = true := by kernel_rfl
theorem cS2_73 : cov b2 1 60620801 := cov_trans cS2_72 (cov2 tS2_73 (by decide) (by decide))
theorem tS2_74 : chk B2 (2 ^ 14) (2147483647 * one 14) (131071 * one 14) (one 14) (idx 14) 50 60620801 = true := by kernel_rfl
theorem cS2_74 : cov b2 1 61440001 := cov_trans cS2_73 (cov2 tS2_74 (by decide) (by decide))
theorem tS2_75 : chk B2 (2 ^ 14) (2147483647 * one 14) (131071 * one 14) (one 14) (idx 14) 50 61440001 = true := by kernel_rfl
theorem cS2_75 : cov b2 1 62259201 := cov_trans cS2_74 (cov2 tS2_75 (by decide) (by decide))
theorem tS2_76 : chk B2 (2 ^ 14) (2147483647 * one 14) (131071 * one 14) (one 14) (idx 14) 50 62259201 = true := by kernel_rfl
theorem cS2_76 : cov b2 1 63078401 := cov_trans cS2_75 (cov2 tS2_76 (by decide) (by decide))
theorem tS2_77 : chk B2 (2 ^ 14) (2147483647 * one 14) (131071 * one 14) (one 14) (idx 14) 50 63078401 = true := by kernel_rfl
theorem cS2_77 : cov b2 1 63897601 := cov_trans cS2_76 (cov2 tS2_77 (by decide) (by decide))
theorem tS2_78 : chk B2 (2 ^ 14) (2147483647 * one 14) (131071 * one 14) (one 14) (idx 14) 50 63897601 = true := by kernel_rfl
theorem cS2_78 : cov b2 1 64716801 := cov_trans cS2_77 (cov2 tS2_78 (by decide) (by decide))
theorem tS2_79 : chk B2 (2 ^ 14) (2147483647 * one 14) (131071 * one 14) (one 14) (idx 14) 50 64716801 = true := by kernel_rfl
theorem cS2_79 : cov b2 1 65536001 := cov_trans cS2_78 (cov2 tS2_79 (by decide) (by decide))
theorem tS2_80 : chk B2 (2 ^ 14) (2147483647 * one 14) (131071 * one 14) (one 14) (idx 14) 50 65536001 = true := by kernel_rfl
theorem cS2_80 : cov b2 1 66355201 := cov_trans cS2_79 (cov2 tS2_80 (by decide) (by decide))
theorem tS2_81 : chk B2 (2 ^ 14) (2147483647 * one 14) (131071 * one 14) (one 14) (idx 14) 50 66355201 = true := by kernel_rfl
theorem cS2_81 : cov b2 1 67174401 := cov_trans cS2_80 (cov2 tS2_81 (by decide) (by decide))
theorem tS2_82 : chk B2 (2 ^ 14) (2147483647 * one 14) (131071 * one 14) (one 14) (idx 14) 50 67174401 = true := by kernel_rfl
theorem cS2_82 : cov b2 1 67993601 := cov_trans cS2_81 (cov2 tS2_82 (by decide) (by decide))
theorem tS2_83 : chk B2 (2 ^ 14) (2147483647 * one 14) (131071 * one 14) (one 14) (idx 14) 50 67993601 = true := by kernel_rfl
theorem cS2_83 : cov b2 1 68812801 := cov_trans cS2_82 (cov2 tS2_83 (by decide) (by decide))
theorem tS2_84 : chk B2 (2 ^ 14) (2147483647 * one 14) (131071 * one 14) (one 14) (idx 14) 50 68812801 = true := by kernel_rfl
theorem cS2_84 : cov b2 1 69632001 := cov_trans cS2_83 (cov2 tS2_84 (by decide) (by decide))
theorem tS2_85 : chk B2 (2 ^ 14) (2147483647 * one 14) (131071 * one 14) (one 14) (idx 14) 50 69632001 = true := by kernel_rfl
theorem cS2_85 : cov b2 1 70451201 := cov_trans cS2_84 (cov2 tS2_85 (by decide) (by decide))
theorem tS2_86 : chk B2 (2 ^ 14) (2147483647 * one 14) (131071 * one 14) (one 14) (idx 14) 50 70451201 = true := by kernel_rfl
theorem cS2_86 : cov b2 1 71270401 := cov_trans cS2_85 (cov2 tS2_86 (by decide) (by decide))
theorem tS2_87 : chk B2 (2 ^ 14) (2147483647 * one 14) (131071 * one 14) (one 14) (idx 14) 50 71270401 = true := by kernel_rfl
theorem cS2_87 : cov b2 1 72089601 := cov_trans cS2_86 (cov2 tS2_87 (by decide) (by decide))
theorem tS2_88 : chk B2 (2 ^ 14) (2147483647 * one 14) (131071 * one 14) (one 14) (idx 14) 50 72089601 = true := by kernel_rfl
theorem cS2_88 : cov b2 1 72908801 := cov_trans cS2_87 (cov2 tS2_88 (by decide) (by decide))
theorem tS2_89 : chk B2 (2 ^ 14) (2147483647 * one 14) (131071 * one 14) (one 14) (idx 14) 50 72908801 = true := by kernel_rfl
theorem cS2_89 : cov b2 1 73728001 := cov_trans cS2_88 (cov2 tS2_89 (by decide) (by decide))
theorem tS2_90 : chk B2 (2 ^ 14) (2147483647 * one 14) (131071 * one 14) (one 14) (idx 14) 50 73728001 = true := by kernel_rfl
theorem cS2_90 : cov b2 1 74547201 := cov_trans cS2_89 (cov2 tS2_90 (by decide) (by decide))
theorem tS2_91 : chk B2 (2 ^ 14) (2147483647 * one 14) (131071 * one 14) (one 14) (idx 14) 50 74547201 = true := by kernel_rfl
theorem cS2_91 : cov b2 1 75366401 := cov_trans cS2_90 (cov2 tS2_91 (by decide) (by decide))
theorem tS2_92 : chk B2 (2 ^ 14) (2147483647 * one 14) (131071 * one 14) (one 14) (idx 14) 50 75366401 = true := by kernel_rfl
theorem cS2_92 : cov b2 1 76185601 := cov_trans cS2_91 (cov2 tS2_92 (by decide) (by decide))
theorem tS2_93 : chk B2 (2 ^ 14) (2147483647 * one 14) (131071 * one 14) (one 14) (idx 14) 50 76185601 = true := by kernel_rfl
theorem cS2_93 : cov b2 1 77004801 := cov_trans cS2_92 (cov2 tS2_93 (by decide) (by decide))
theorem tS2_94 : chk B2 (2 ^ 14) (2147483647 * one 14) (131071 * one 14) (one 14) (idx 14) 50 77004801 = true := by kernel_rfl
theorem cS2_94 : cov b2 1 77824001 := cov_trans cS2_93 (cov2 tS2_94 (by decide) (by decide))
theorem tS2_95 : chk B2 (2 ^ 14) (2147483647 * one 14) (131071 * one 14) (one 14) (idx 14) 50 77824001 = true := by kernel_rfl
theorem cS2_95 : cov b2 1 78643201 := cov_trans cS2_94 (cov2 tS2_95 (by decide) (by decide))
theorem tS2_96 : chk B2 (2 ^ 14) (2147483647 * one 14) (131071 * one 14) (one 14) (idx 14) 50 78643201 = true := by kernel_rfl
theorem cS2_96 : cov b2 1 79462401 := cov_trans cS2_95 (cov2 tS2_96 (by decide) (by decide))
theorem tS2_97 : chk B2 (2 ^ 14) (2147483647 * one 14) (131071 * one 14) (one 14) (idx 14) 50 79462401 = true := by kernel_rfl
theorem cS2_97 : cov b2 1 80281601 := cov_trans cS2_96 (cov2 tS2_97 (by decide) (by decide))
theorem tS2_98 : chk B2 (2 ^ 14) (2147483647 * one 14) (131071 * one 14) (one 14) (idx 14) 50 80281601 = true := by kernel_rfl
theorem cS2_98 : cov b2 1 81100801 := cov_trans cS2_97 (cov2 tS2_98 (by decide) (by decide))
theorem tS2_99 : chk B2 (2 ^ 14) (2147483647 * one 14) (131071 * one 14) (one 14) (idx 14) 50 81100801 = true := by kernel_rfl
theorem cS2_99 : cov b2 1 81920001 := cov_trans cS2_98 (cov2 tS2_99 (by decide) (by decide))
theorem tS2_100 : chk B2 (2 ^ 14) (2147483647 * one 14) (131071 * one 14) (one 14) (idx 14) 50 81920001 = true := by kernel_rfl
theorem cS2_100 : cov b2 1 82739201 := cov_trans cS2_99 (cov2 tS2_100 (by decide) (by decide))
theorem tS2_101 : chk B2 (2 ^ 14) (2147483647 * one 14) (131071 * one 14) (one 14) (idx 14) 50 82739201 = true := by kernel_rfl
theorem cS2_101 : cov b2 1 83558401 := cov_trans cS2_100 (cov2 tS2_101 (by decide) (by decide))
theorem tS2_102 : chk B2 (2 ^ 14) (2147483647 * one 14) (131071 * one 14) (one 14) (idx 14) 50 83558401 = true := by kernel_rfl
theorem cS2_102 : cov b2 1 84377601 := cov_trans cS2_101 (cov2 tS2_102 (by decide) (by decide))
theorem tS2_103 : chk B2 (2 ^ 14) (2147483647 * one 14) (131071 * one 14) (one 14) (idx 14) 50 84377601 = true := by kernel_rfl
theorem cS2_103 : cov b2 1 85196801 := cov_trans cS2_102 (cov2 tS2_103 (by decide) (by decide))
theorem tS2_104 : chk B2 (2 ^ 14) (2147483647 * one 14) (131071 * one 14) (one 14) (idx 14) 50 85196801 = true := by kernel_rfl
theorem cS2_104 : cov b2 1 86016001 := cov_trans cS2_103 (cov2 tS2_104 (by decide) (by decide))
theorem tS2_105 : chk B2 (2 ^ 14) (2147483647 * one 14) (131071 * one 14) (one 14) (idx 14) 50 86016001 = true := by kernel_rfl
theorem cS2_105 : cov b2 1 86835201 := cov_trans cS2_104 (cov2 tS2_105 (by decide) (by decide))
theorem tS2_106 : chk B2 (2 ^ 14) (2147483647 * one 14) (131071 * one 14) (one 14) (idx 14) 50 86835201 = true := by kernel_rfl
theorem cS2_106 : cov b2 1 87654401 := cov_trans cS2_105 (cov2 tS2_106 (by decide) (by decide))
theorem tS2_107 : chk B2 (2 ^ 14) (2147483647 * one 14) (131071 * one 14) (one 14) (idx 14) 50 87654401 = true := by kernel_rfl
theorem cS2_107 : cov b2 1 88473601 := cov_trans cS2_106 (cov2 tS2_107 (by decide) (by decide))
theorem tS2_108 : chk B2 (2 ^ 14) (2147483647 * one 14) (131071 * one 14) (one 14) (idx 14) 50 88473601 = true := by kernel_rfl
theorem cS2_108 : cov b2 1 89292801 := cov_trans cS2_107 (cov2 tS2_108 (by decide) (by decide))
theorem tS2_109 : chk B2 (2 ^ 14) (2147483647 * one 14) (131071 * one 14) (one 14) (idx 14) 50 89292801 = true := by kernel_rfl
theorem cS2_109 : cov b2 1 90112001 := cov_trans cS2_108 (cov2 tS2_109 (by decide) (by decide))
theorem tS2_110 : chk B2 (2 ^ 14) (2147483647 * one 14) (131071 * one 14) (one 14) (idx 14) 50 90112001 = true := by kernel_rfl
theorem cS2_110 : cov b2 1 90931201 := cov_trans cS2_109 (cov2 tS2_110 (by decide) (by decide))
theorem tS2_111 : chk B2 (2 ^ 14) (2147483647 * one 14) (131071 * one 14) (one 14) (idx 14) 50 90931201 = true := by kernel_rfl
theorem cS2_111 : cov b2 1 91750401 := cov_trans cS2_110 (cov2 tS2_111 (by decide) (by decide))
theorem tS2_112 : chk B2 (2 ^ 14) (2147483647 * one 14) (131071 * one 14) (one 14) (idx 14) 50 91750401 = true := by kernel_rfl
theorem cS2_112 : cov b2 1 92569601 := cov_trans cS2_111 (cov2 tS2_112 (by decide) (by decide))
theorem tS2_113 : chk B2 (2 ^ 14) (2147483647 * one 14) (131071 * one 14) (one 14) (idx 14) 50 92569601 = true := by kernel_rfl
theorem cS2_113 : cov b2 1 93388801 := cov_trans cS2_112 (cov2 tS2_113 (by decide) (by decide))
theorem tS2_114 : chk B2 (2 ^ 14) (2147483647 * one 14) (131071 * one 14) (one 14) (idx 14) 50 93388801 = true := by kernel_rfl
theorem cS2_114 : cov b2 1 94208001 := cov_trans cS2_113 (cov2 tS2_114 (by decide) (by decide))
theorem tS2_115 : chk B2 (2 ^ 14) (2147483647 * one 14) (131071 * one 14) (one 14) (idx 14) 50 94208001 = true := by kernel_rfl
theorem cS2_115 : cov b2 1 95027201 := cov_trans cS2_114 (cov2 tS2_115 (by decide) (by decide))
theorem tS2_116 : chk B2 (2 ^ 14) (2147483647 * one 14) (131071 * one 14) (one 14) (idx 14) 50 95027201 = true := by kernel_rfl
theorem cS2_116 : cov b2 1 95846401 := cov_trans cS2_115 (cov2 tS2_116 (by decide) (by decide))
theorem tS2_117 : chk B2 (2 ^ 14) (2147483647 * one 14) (131071 * one 14) (one 14) (idx 14) 50 95846401 = true := by kernel_rfl
theorem cS2_117 : cov b2 1 96665601 := cov_trans cS2_116 (cov2 tS2_117 (by decide) (by decide))
theorem tS2_118 : chk B2 (2 ^ 14) (2147483647 * one 14) (131071 * one 14) (one 14) (idx 14) 50 96665601 = true := by kernel_rfl
theorem cS2_118 : cov b2 1 97484801 := cov_trans cS2_117 (cov2 tS2_118 (by decide) (by decide))
theorem tS2_119 : chk B2 (2 ^ 14) (2147483647 * one 14) (131071 * one 14) (one 14) (idx 14) 50 97484801 = true := by kernel_rfl
theorem cS2_119 : cov b2 1 98304001 := cov_trans cS2_118 (cov2 tS2_119 (by decide) (by decide))
theorem tS2_120 : chk B2 (2 ^ 14) (2147483647 * one 14) (131071 * one 14) (one 14) (idx 14) 50 98304001 = true := by kernel_rfl
theorem cS2_120 : cov b2 1 99123201 := cov_trans cS2_119 (cov2 tS2_120 (by decide) (by decide))
theorem tS2_121 : chk B2 (2 ^ 14) (2147483647 * one 14) (131071 * one 14) (one 14) (idx 14) 50 99123201 = true := by kernel_rfl
theorem cS2_121 : cov b2 1 99942401 := cov_trans cS2_120 (cov2 tS2_121 (by decide) (by decide))
theorem tS2_122 : chk B2 (2 ^ 14) (2147483647 * one 14) (131071 * one 14) (one 14) (idx 14) 50 99942401 = true := by kernel_rfl
theorem cS2_122 : cov b2 1 100761601 := cov_trans cS2_121 (cov2 tS2_122 (by decide) (by decide))
theorem tS2_123 : chk B2 (2 ^ 14) (2147483647 * one 14) (131071 * one 14) (one 14) (idx 14) 50 100761601 = true := by kernel_rfl
theorem cS2_123 : cov b2 1 101580801 := cov_trans cS2_122 (cov2 tS2_123 (by decide) (by decide))
theorem tS2_124 : chk B2 (2 ^ 14) (2147483647 * one 14) (131071 * one 14) (one 14) (idx 14) 50 101580801 = true := by kernel_rfl
theorem cS2_124 : cov b2 1 102400001 := cov_trans cS2_123 (cov2 tS2_124 (by decide) (by decide))
theorem tS2_125 : chk B2 (2 ^ 14) (2147483647 * one 14) (131071 * one 14) (one 14) (idx 14) 50 102400001 = true := by kernel_rfl
theorem cS2_125 : cov b2 1 103219201 := cov_trans cS2_124 (cov2 tS2_125 (by decide) (by decide))
theorem tS2_126 : chk B2 (2 ^ 14) (2147483647 * one 14) (131071 * one 14) (one 14) (idx 14) 50 103219201 = true := by kernel_rfl
theorem cS2_126 : cov b2 1 104038401 := cov_trans cS2_125 (cov2 tS2_126 (by decide) (by decide))
theorem tS2_127 : chk B2 (2 ^ 14) (2147483647 * one 14) (131071 * one 14) (one 14) (idx 14) 50 104038401 = true := by kernel_rfl
theorem cS2_127 : cov b2 1 104857601 := cov_trans cS2_126 (cov2 tS2_127 (by decide) (by decide))
theorem tS2_128 : chk B2 (2 ^ 14) (2147483647 * one 14) (131071 * one 14) (one 14) (idx 14) 50 104857601 = true := by kernel_rfl
theorem cS2_128 : cov b2 1 105676801 := cov_trans cS2_127 (cov2 tS2_128 (by decide) (by decide))
theorem tS2_129 : chk B2 (2 ^ 14) (2147483647 * one 14) (131071 * one 14) (one 14) (idx 14) 50 105676801 = true := by kernel_rfl
theorem cS2_129 : cov b2 1 106496001 := cov_trans cS2_128 (cov2 tS2_129 (by decide) (by decide))
theorem tS2_130 : chk B2 (2 ^ 14) (2147483647 * one 14) (131071 * one 14) (one 14) (idx 14) 50 106496001 = true := by kernel_rfl
theorem cS2_130 : cov b2 1 107315201 := cov_trans cS2_129 (cov2 tS2_130 (by decide) (by decide))
theorem tS2_131 : chk B2 (2 ^ 14) (2147483647 * one 14) (131071 * one 14) (one 14) (idx 14) 50 107315201 = true := by kernel_rfl
theorem cS2_131 : cov b2 1 108134401 := cov_trans cS2_130 (cov2 tS2_131 (by decide) (by decide))
theorem tS2_132 : chk B2 (2 ^ 14) (2147483647 * one 14) (131071 * one 14) (one 14) (idx 14) 50 108134401 = true := by kernel_rfl
theorem cS2_132 : cov b2 1 108953601 := cov_trans cS2_131 (cov2 tS2_132 (by decide) (by decide))
theorem tS2_133 : chk B2 (2 ^ 14) (2147483647 * one 14) (131071 * one 14) (one 14) (idx 14) 50 108953601 = true := by kernel_rfl
theorem cS2_133 : cov b2 1 109772801 := cov_trans cS2_132 (cov2 tS2_133 (by decide) (by decide))
theorem tS2_134 : chk B2 (2 ^ 14) (2147483647 * one 14) (131071 * one 14) (one 14) (idx 14) 50 109772801 = true := by kernel_rfl
theorem cS2_134 : cov b2 1 110592001 := cov_trans cS2_133 (cov2 tS2_134 (by decide) (by decide))
theorem tS2_135 : chk B2 (2 ^ 14) (2147483647 * one 14) (131071 * one 14) (one 14) (idx 14) 50 110592001 = true := by kernel_rfl
theorem cS2_135 : cov b2 1 111411201 := cov_trans cS2_134 (cov2 tS2_135 (by decide) (by decide))
theorem tS2_136 : chk B2 (2 ^ 14) (2147483647 * one 14) (131071 * one 14) (one 14) (idx 14) 50 111411201 = true := by kernel_rfl
theorem cS2_136 : cov b2 1 112230401 := cov_trans cS2_135 (cov2 tS2_136 (by decide) (by decide))
theorem tS2_137 : chk B2 (2 ^ 14) (2147483647 * one 14) (131071 * one 14) (one 14) (idx 14) 50 112230401 = true := by kernel_rfl
theorem cS2_137 : cov b2 1 113049601 := cov_trans cS2_136 (cov2 tS2_137 (by decide) (by decide))
theorem tS2_138 : chk B2 (2 ^ 14) (2147483647 * one 14) (131071 * one 14) (one 14) (idx 14) 50 113049601 = true := by kernel_rfl
theorem cS2_138 : cov b2 1 113868801 := cov_trans cS2_137 (cov2 tS2_138 (by decide) (by decide))
theorem tS2_139 : chk B2 (2 ^ 14) (2147483647 * one 14) (131071 * one 14) (one 14) (idx 14) 50 113868801 = true := by kernel_rfl
theorem cS2_139 : cov b2 1 114688001 := cov_trans cS2_138 (cov2 tS2_139 (by decide) (by decide))
theorem tS2_140 : chk B2 (2 ^ 14) (2147483647 * one 14) (131071 * one 14) (one 14) (idx 14) 50 114688001 = true := by kernel_rfl
theorem cS2_140 : cov b2 1 115507201 := cov_trans cS2_139 (cov2 tS2_140 (by decide) (by decide))
theorem tS2_141 : chk B2 (2 ^ 14) (2147483647 * one 14) (131071 * one 14) (one 14) (idx 14) 50 115507201 = true := by kernel_rfl
theorem cS2_141 : cov b2 1 116326401 := cov_trans cS2_140 (cov2 tS2_141 (by decide) (by decide))
theorem tS2_142 : chk B2 (2 ^ 14) (2147483647 * one 14) (131071 * one 14) (one 14) (idx 14) 50 116326401 = true := by kernel_rfl
theorem cS2_142 : cov b2 1 117145601 := cov_trans cS2_141 (cov2 tS2_142 (by decide) (by decide))
theorem tS2_143 : chk B2 (2 ^ 14) (2147483647 * one 14) (131071 * one 14) (one 14) (idx 14) 50 117145601 = true := by kernel_rfl
theorem cS2_143 : cov b2 1 117964801 := cov_trans cS2_142 (cov2 tS2_143 (by decide) (by decide))
theorem tS2_144 : chk B2 (2 ^ 14) (2147483647 * one 14) (131071 * one 14) (one 14) (idx 14) 50 117964801 = true := by kernel_rfl
theorem cS2_144 : cov b2 1 118784001 := cov_trans cS2_143 (cov2 tS2_144 (by decide) (by decide))
theorem tS2_145 : chk B2 (2 ^ 14) (2147483647 * one 14) (131071 * one 14) (one 14) (idx 14) 50 118784001 = true := by kernel_rfl
theorem cS2_145 : cov b2 1 119603201 := cov_trans cS2_144 (cov2 tS2_145 (by decide) (by decide))
theorem tS2_146 : chk B2 (2 ^ 14) (2147483647 * one 14) (131071 * one 14) (one 14) (idx 14) 50 119603201 = true := by kernel_rfl
theorem cS2_146 : cov b2 1 120422401 := cov_trans cS2_145 (cov2 tS2_146 (by decide) (by decide))
theorem tS2_147 : chk B2 (2 ^ 14) (2147483647 * one 14) (131071 * one 14) (one 14) (idx 14) 50 120422401 = true := by kernel_rfl
theorem cS2_147 : cov b2 1 121241601 := cov_trans cS2_146 (cov2 tS2_147 (by decide) (by decide))
theorem tS2_148 : chk B2 (2 ^ 14) (2147483647 * one 14) (131071 * one 14) (one 14) (idx 14) 50 121241601 = true := by kernel_rfl
theorem cS2_148 : cov b2 1 122060801 := cov_trans cS2_147 (cov2 tS2_148 (by decide) (by decide))
theorem tS2_149 : chk B2 (2 ^ 14) (2147483647 * one 14) (131071 * one 14) (one 14) (idx 14) 50 122060801 = true := by kernel_rfl
theorem cS2_149 : cov b2 1 122880001 := cov_trans cS2_148 (cov2 tS2_149 (by decide) (by decide))
theorem tS2_150 : chk B2 (2 ^ 14) (2147483647 * one 14) (131071 * one 14) (one 14) (idx 14) 50 122880001 = true := by kernel_rfl
theorem cS2_150 : cov b2 1 123699201 := cov_trans cS2_149 (cov2 tS2_150 (by decide) (by decide))
theorem tS2_151 : chk B2 (2 ^ 14) (2147483647 * one 14) (131071 * one 14) (one 14) (idx 14) 50 123699201 = true := by kernel_rfl
theorem cS2_151 : cov b2 1 124518401 := cov_trans cS2_150 (cov2 tS2_151 (by decide) (by decide))
theorem tS2_152 : chk B2 (2 ^ 14) (2147483647 * one 14) (131071 * one 14) (one 14) (idx 14) 50 124518401 = true := by kernel_rfl
theorem cS2_152 : cov b2 1 125337601 := cov_trans cS2_151 (cov2 tS2_152 (by decide) (by decide))
theorem tS2_153 : chk B2 (2 ^ 14) (2147483647 * one 14) (131071 * one 14) (one 14) (idx 14) 50 125337601 = true := by kernel_rfl
theorem cS2_153 : cov b2 1 126156801 := cov_trans cS2_152 (cov2 tS2_153 (by decide) (by decide))
theorem tS2_154 : chk B2 (2 ^ 14) (2147483647 * one 14) (131071 * one 14) (one 14) (idx 14) 50 126156801 = true := by kernel_rfl
theorem cS2_154 : cov b2 1 126976001 := cov_trans cS2_153 (cov2 tS2_154 (by decide) (by decide))
theorem tS2_155 : chk B2 (2 ^ 14) (2147483647 * one 14) (131071 * one 14) (one 14) (idx 14) 50 126976001 = true := by kernel_rfl
theorem cS2_155 : cov b2 1 127795201 := cov_trans cS2_154 (cov2 tS2_155 (by decide) (by decide))
theorem tS2_156 : chk B2 (2 ^ 14) (2147483647 * one 14) (131071 * one 14) (one 14) (idx 14) 50 127795201 = true := by kernel_rfl
theorem cS2_156 : cov b2 1 128614401 := cov_trans cS2_155 (cov2 tS2_156 (by decide) (by decide))
theorem tS2_157 : chk B2 (2 ^ 14) (2147483647 * one 14) (131071 * one 14) (one 14) (idx 14) 50 128614401 = true := by kernel_rfl
theorem cS2_157 : cov b2 1 129433601 := cov_trans cS2_156 (cov2 tS2_157 (by decide) (by decide))
theorem tS2_158 : chk B2 (2 ^ 14) (2147483647 * one 14) (131071 * one 14) (one 14) (idx 14) 50 129433601 = true := by kernel_rfl
theorem cS2_158 : cov b2 1 130252801 := cov_trans cS2_157 (cov2 tS2_158 (by decide) (by decide))
theorem tS2_159 : chk B2 (2 ^ 14) (2147483647 * one 14) (131071 * one 14) (one 14) (idx 14) 50 130252801 = true := by kernel_rfl
theorem cS2_159 : cov b2 1 131072001 := cov_trans cS2_158 (cov2 tS2_159 (by decide) (by decide))
theorem tS2_160 : chk B2 (2 ^ 14) (2147483647 * one 14) (131071 * one 14) (one 14) (idx 14) 50 131072001 = true := by kernel_rfl
theorem cS2_160 : cov b2 1 131891201 := cov_trans cS2_159 (cov2 tS2_160 (by decide) (by decide))
theorem tS2_161 : chk B2 (2 ^ 14) (2147483647 * one 14) (131071 * one 14) (one 14) (idx 14) 50 131891201 = true := by kernel_rfl
theorem cS2_161 : cov b2 1 132710401 := cov_trans cS2_160 (cov2 tS2_161 (by decide) (by decide))
theorem tS2_162 : chk B2 (2 ^ 14) (2147483647 * one 14) (131071 * one 14) (one 14) (idx 14) 50 132710401 = true := by kernel_rfl
theorem cS2_162 : cov b2 1 133529601 := cov_trans cS2_161 (cov2 tS2_162 (by decide) (by decide))
theorem tS2_163 : chk B2 (2 ^ 14) (2147483647 * one 14) (131071 * one 14) (one 14) (idx 14) 50 133529601 = true := by kernel_rfl
theorem cS2_163 : cov b2 1 134348801 := cov_trans cS2_162 (cov2 tS2_163 (by decide) (by decide))
theorem tS2_164 : chk B2 (2 ^ 14) (2147483647 * one 14) (131071 * one 14) (one 14) (idx 14) 50 134348801 = true := by kernel_rfl
theorem cS2_164 : cov b2 1 135168001 := cov_trans cS2_163 (cov2 tS2_164 (by decide) (by decide))
theorem tS2_165 : chk B2 (2 ^ 14) (2147483647 * one 14) (131071 * one 14) (one 14) (idx 14) 50 135168001 = true := by kernel_rfl
theorem cS2_165 : cov b2 1 135987201 := cov_trans cS2_164 (cov2 tS2_165 (by decide) (by decide))
theorem tS2_166 : chk B2 (2 ^ 14) (2147483647 * one 14) (131071 * one 14) (one 14) (idx 14) 50 135987201 = true := by kernel_rfl
theorem cS2_166 : cov b2 1 136806401 := cov_trans cS2_165 (cov2 tS2_166 (by decide) (by decide))
theorem tS2_167 : chk B2 (2 ^ 14) (2147483647 * one 14) (131071 * one 14) (one 14) (idx 14) 50 136806401 = true := by kernel_rfl
theorem cS2_167 : cov b2 1 137625601 := cov_trans cS2_166 (cov2 tS2_167 (by decide) (by decide))
theorem tS2_168 : chk B2 (2 ^ 14) (2147483647 * one 14) (131071 * one 14) (one 14) (idx 14) 50 137625601 = true := by kernel_rfl
theorem cS2_168 : cov b2 1 138444801 := cov_trans cS2_167 (cov2 tS2_168 (by decide) (by decide))
theorem tS2_169 : chk B2 (2 ^ 14) (2147483647 * one 14) (131071 * one 14) (one 14) (idx 14) 50 138444801 = true := by kernel_rfl
theorem cS2_169 : cov b2 1 139264001 := cov_trans cS2_168 (cov2 tS2_169 (by decide) (by decide))
theorem tS2_170 : chk B2 (2 ^ 14) (2147483647 * one 14) (131071 * one 14) (one 14) (idx 14) 50 139264001 = true := by kernel_rfl
theorem cS2_170 : cov b2 1 140083201 := cov_trans cS2_169 (cov2 tS2_170 (by decide) (by decide))
theorem tS2_171 : chk B2 (2 ^ 14) (2147483647 * one 14) (131071 * one 14) (one 14) (idx 14) 50 140083201 = true := by kernel_rfl
theorem cS2_171 : cov b2 1 140902401 := cov_trans cS2_170 (cov2 tS2_171 (by decide) (by decide))
theorem tS2_172 : chk B2 (2 ^ 14) (2147483647 * one 14) (131071 * one 14) (one 14) (idx 14) 50 140902401 = true := by kernel_rfl
theorem cS2_172 : cov b2 1 141721601 := cov_trans cS2_171 (cov2 tS2_172 (by decide) (by decide))
theorem tS2_173 : chk B2 (2 ^ 14) (2147483647 * one 14) (131071 * one 14) (one 14) (idx 14) 50 141721601 = true := by kernel_rfl
theorem cS2_173 : cov b2 1 142540801 := cov_trans cS2_172 (cov2 tS2_173 (by decide) (by decide))
theorem tS2_174 : chk B2 (2 ^ 14) (2147483647 * one 14) (131071 * one 14) (one 14) (idx 14) 50 142540801 = true := by kernel_rfl
theorem cS2_174 : cov b2 1 143360001 := cov_trans cS2_173 (cov2 tS2_174 (by decide) (by decide))
theorem tS2_175 : chk B2 (2 ^ 14) (2147483647 * one 14) (131071 * one 14) (one 14) (idx 14) 50 143360001 = true := by kernel_rfl
theorem cS2_175 : cov b2 1 144179201 := cov_trans cS2_174 (cov2 tS2_175 (by decide) (by decide))
theorem tS2_176 : chk B2 (2 ^ 14) (2147483647 * one 14) (131071 * one 14) (one 14) (idx 14) 50 144179201 = true := by kernel_rfl
theorem cS2_176 : cov b2 1 144998401 := cov_trans cS2_175 (cov2 tS2_176 (by decide) (by decide))
theorem tS2_177 : chk B2 (2 ^ 14) (2147483647 * one 14) (131071 * one 14) (one 14) (idx 14) 50 144998401 = true := by kernel_rfl
theorem cS2_177 : cov b2 1 145817601 := cov_trans cS2_176 (cov2 tS2_177 (by decide) (by decide))
theorem tS2_178 : chk B2 (2 ^ 14) (2147483647 * one 14) (131071 * one 14) (one 14) (idx 14) 50 145817601 = true := by kernel_rfl
theorem cS2_178 : cov b2 1 146636801 := cov_trans cS2_177 (cov2 tS2_178 (by decide) (by decide))
theorem tS2_179 : chk B2 (2 ^ 14) (2147483647 * one 14) (131071 * one 14) (one 14) (idx 14) 50 146636801 = true := by kernel_rfl
theorem cS2_179 : cov b2 1 147456001 := cov_trans cS2_178 (cov2 tS2_179 (by decide) (by decide))
theorem tS2_180 : chk B2 (2 ^ 14) (2147483647 * one 14) (131071 * one 14) (one 14) (idx 14) 50 147456001 = true := by kernel_rfl
theorem cS2_180 : cov b2 1 148275201 := cov_trans cS2_179 (cov2 tS2_180 (by decide) (by decide))
theorem tS2_181 : chk B2 (2 ^ 14) (2147483647 * one 14) (131071 * one 14) (one 14) (idx 14) 50 148275201 = true := by kernel_rfl
theorem cS2_181 : cov b2 1 149094401 := cov_trans cS2_180 (cov2 tS2_181 (by decide) (by decide))
theorem tS2_182 : chk B2 (2 ^ 14) (2147483647 * one 14) (131071 * one 14) (one 14) (idx 14) 50 149094401 = true := by kernel_rfl
theorem cS2_182 : cov b2 1 149913601 := cov_trans cS2_181 (cov2 tS2_182 (by decide) (by decide))
theorem tS2_183 : chk B2 (2 ^ 14) (2147483647 * one 14) (131071 * one 14) (one 14) (idx 14) 50 149913601 = true := by kernel_rfl
theorem cS2_183 : cov b2 1 150732801 := cov_trans cS2_182 (cov2 tS2_183 (by decide) (by decide))
theorem tS2_184 : chk B2 (2 ^ 14) (2147483647 * one 14) (131071 * one 14) (one 14) (idx 14) 50 150732801 = true := by kernel_rfl
theorem cS2_184 : cov b2 1 151552001 := cov_trans cS2_183 (cov2 tS2_184 (by decide) (by decide))
theorem tS2_185 : chk B2 (2 ^ 14) (2147483647 * one 14) (131071 * one 14) (one 14) (idx 14) 50 151552001 = true := by kernel_rfl
theorem cS2_185 : cov b2 1 152371201 := cov_trans cS2_184 (cov2 tS2_185 (by decide) (by decide))
theorem tS2_186 : chk B2 (2 ^ 14) (2147483647 * one 14) (131071 * one 14) (one 14) (idx 14) 50 152371201 = true := by kernel_rfl
theorem cS2_186 : cov b2 1 153190401 := cov_trans cS2_185 (cov2 tS2_186 (by decide) (by decide))
theorem tS2_187 : chk B2 (2 ^ 14) (2147483647 * one 14) (131071 * one 14) (one 14) (idx 14) 50 153190401 = true := by kernel_rfl
theorem cS2_187 : cov b2 1 154009601 := cov_trans cS2_186 (cov2 tS2_187 (by decide) (by decide))
theorem tS2_188 : chk B2 (2 ^ 14) (2147483647 * one 14) (131071 * one 14) (one 14) (idx 14) 50 154009601 = true := by kernel_rfl
theorem cS2_188 : cov b2 1 154828801 := cov_trans cS2_187 (cov2 tS2_188 (by decide) (by decide))
theorem tS2_189 : chk B2 (2 ^ 14) (2147483647 * one 14) (131071 * one 14) (one 14) (idx 14) 50 154828801 = true := by kernel_rfl
theorem cS2_189 : cov b2 1 155648001 := cov_trans cS2_188 (cov2 tS2_189 (by decide) (by decide))
theorem tS2_190 : chk B2 (2 ^ 14) (2147483647 * one 14) (131071 * one 14) (one 14) (idx 14) 50 155648001 = true := by kernel_rfl
theorem cS2_190 : cov b2 1 156467201 := cov_trans cS2_189 (cov2 tS2_190 (by decide) (by decide))
theorem tS2_191 : chk B2 (2 ^ 14) (2147483647 * one 14) (131071 * one 14) (one 14) (idx 14) 50 156467201 = true := by kernel_rfl
theorem cS2_191 : cov b2 1 157286401 := cov_trans cS2_190 (cov2 tS2_191 (by decide) (by decide))
theorem tS2_192 : chk B2 (2 ^ 14) (2147483647 * one 14) (131071 * one 14) (one 14) (idx 14) 50 157286401 = true := by kernel_rfl
theorem cS2_192 : cov b2 1 158105601 := cov_trans cS2_191 (cov2 tS2_192 (by decide) (by decide))
theorem tS2_193 : chk B2 (2 ^ 14) (2147483647 * one 14) (131071 * one 14) (one 14) (idx 14) 50 158105601 = true := by kernel_rfl
theorem cS2_193 : cov b2 1 158924801 := cov_trans cS2_192 (cov2 tS2_193 (by decide) (by decide))
theorem tS2_194 : chk B2 (2 ^ 14) (2147483647 * one 14) (131071 * one 14) (one 14) (idx 14) 50 158924801 = true := by kernel_rfl
theorem cS2_194 : cov b2 1 159744001 := cov_trans cS2_193 (cov2 tS2_194 (by decide) (by decide))
theorem tS2_195 : chk B2 (2 ^ 14) (2147483647 * one 14) (131071 * one 14) (one 14) (idx 14) 50 159744001 = true := by kernel_rfl
theorem cS2_195 : cov b2 1 160563201 := cov_trans cS2_194 (cov2 tS2_195 (by decide) (by decide))
theorem tS2_196 : chk B2 (2 ^ 14) (2147483647 * one 14) (131071 * one 14) (one 14) (idx 14) 50 160563201 = true := by kernel_rfl
theorem cS2_196 : cov b2 1 161382401 := cov_trans cS2_195 (cov2 tS2_196 (by decide) (by decide))
theorem tS2_197 : chk B2 (2 ^ 14) (2147483647 * one 14) (131071 * one 14) (one 14) (idx 14) 50 161382401 = true := by kernel_rfl
theorem cS2_197 : cov b2 1 162201601 := cov_trans cS2_196 (cov2 tS2_197 (by decide) (by decide))
theorem tS2_198 : chk B2 (2 ^ 14) (2147483647 * one 14) (131071 * one 14) (one 14) (idx 14) 50 162201601 = true := by kernel_rfl
theorem cS2_198 : cov b2 1 163020801 := cov_trans cS2_197 (cov2 tS2_198 (by decide) (by decide))
theorem tS2_199 : chk B2 (2 ^ 14) (2147483647 * one 14) (131071 * one 14) (one 14) (idx 14) 50 163020801 = true := by kernel_rfl
theorem cS2_199 : cov b2 1 163840001 := cov_trans cS2_198 (cov2 tS2_199 (by decide) (by decide))
theorem tS2_200 : chk B2 (2 ^ 14) (2147483647 * one 14) (131071 * one 14) (one 14) (idx 14) 50 163840001 = true := by kernel_rfl
theorem cS2_200 : cov b2 1 164659201 := cov_trans cS2_199 (cov2 tS2_200 (by decide) (by decide))
theorem tS2_201 : chk B2 (2 ^ 14) (2147483647 * one 14) (131071 * one 14) (one 14) (idx 14) 50 164659201 = true := by kernel_rfl
theorem cS2_201 : cov b2 1 165478401 := cov_trans cS2_200 (cov2 tS2_201 (by decide) (by decide))
theorem tS2_202 : chk B2 (2 ^ 14) (2147483647 * one 14) (131071 * one 14) (one 14) (idx 14) 50 165478401 = true := by kernel_rfl
theorem cS2_202 : cov b2 1 166297601 := cov_trans cS2_201 (cov2 tS2_202 (by decide) (by decide))
theorem tS2_203 : chk B2 (2 ^ 14) (2147483647 * one 14) (131071 * one 14) (one 14) (idx 14) 50 166297601 = true := by kernel_rfl
theorem cS2_203 : cov b2 1 167116801 := cov_trans cS2_202 (cov2 tS2_203 (by decide) (by decide))
theorem tS2_204 : chk B2 (2 ^ 14) (2147483647 * one 14) (131071 * one 14) (one 14) (idx 14) 50 167116801 = true := by kernel_rfl
theorem cS2_204 : cov b2 1 167936001 := cov_trans cS2_203 (cov2 tS2_204 (by decide) (by decide))
theorem tS2_205 : chk B2 (2 ^ 14) (2147483647 * one 14) (131071 * one 14) (one 14) (idx 14) 50 167936001 = true := by kernel_rfl
theorem cS2_205 : cov b2 1 168755201 := cov_trans cS2_204 (cov2 tS2_205 (by decide) (by decide))
theorem tS2_206 : chk B2 (2 ^ 14) (2147483647 * one 14) (131071 * one 14) (one 14) (idx 14) 50 168755201 = true := by kernel_rfl
theorem cS2_206 : cov b2 1 169574401 := cov_trans cS2_205 (cov2 tS2_206 (by decide) (by decide))
theorem tS2_207 : chk B2 (2 ^ 14) (2147483647 * one 14) (131071 * one 14) (one 14) (idx 14) 50 169574401 = true := by kernel_rfl
theorem cS2_207 : cov b2 1 170393601 := cov_trans cS2_206 (cov2 tS2_207 (by decide) (by decide))
theorem tS2_208 : chk B2 (2 ^ 14) (2147483647 * one 14) (131071 * one 14) (one 14) (idx 14) 50 170393601 = true := by kernel_rfl
theorem cS2_208 : cov b2 1 171212801 := cov_trans cS2_207 (cov2 tS2_208 (by decide) (by decide))
theorem tS2_209 : chk B2 (2 ^ 14) (2147483647 * one 14) (131071 * one 14) (one 14) (idx 14) 50 171212801 = true := by kernel_rfl
theorem cS2_209 : cov b2 1 172032001 := cov_trans cS2_208 (cov2 tS2_209 (by decide) (by decide))
theorem tS2_210 : chk B2 (2 ^ 14) (2147483647 * one 14) (131071 * one 14) (one 14) (idx 14) 50 172032001 = true := by kernel_rfl
theorem cS2_210 : cov b2 1 172851201 := cov_trans cS2_209 (cov2 tS2_210 (by decide) (by decide))
theorem tS2_211 : chk B2 (2 ^ 14) (2147483647 * one 14) (131071 * one 14) (one 14) (idx 14) 50 172851201 = true := by kernel_rfl
theorem cS2_211 : cov b2 1 173670401 := cov_trans cS2_210 (cov2 tS2_211 (by decide) (by decide))
theorem tS2_212 : chk B2 (2 ^ 14) (2147483647 * one 14) (131071 * one 14) (one 14) (idx 14) 50 173670401 = true := by kernel_rfl
theorem cS2_212 : cov b2 1 174489601 := cov_trans cS2_211 (cov2 tS2_212 (by decide) (by decide))
theorem tS2_213 : chk B2 (2 ^ 14) (2147483647 * one 14) (131071 * one 14) (one 14) (idx 14) 50 174489601 = true := by kernel_rfl
theorem cS2_213 : cov b2 1 175308801 := cov_trans cS2_212 (cov2 tS2_213 (by decide) (by decide))
theorem tS2_214 : chk B2 (2 ^ 14) (2147483647 * one 14) (131071 * one 14) (one 14) (idx 14) 50 175308801 = true := by kernel_rfl
theorem cS2_214 : cov b2 1 176128001 := cov_trans cS2_213 (cov2 tS2_214 (by decide) (by decide))
theorem tS2_215 : chk B2 (2 ^ 14) (2147483647 * one 14) (131071 * one 14) (one 14) (idx 14) 50 176128001 = true := by kernel_rfl
theorem cS2_215 : cov b2 1 176947201 := cov_trans cS2_214 (cov2 tS2_215 (by decide) (by decide))
theorem tS2_216 : chk B2 (2 ^ 14) (2147483647 * one 14) (131071 * one 14) (one 14) (idx 14) 50 176947201 = true := by kernel_rfl
theorem cS2_216 : cov b2 1 177766401 := cov_trans cS2_215 (cov2 tS2_216 (by decide) (by decide))
theorem tS2_217 : chk B2 (2 ^ 14) (2147483647 * one 14) (131071 * one 14) (one 14) (idx 14) 50 177766401 = true := by kernel_rfl
theorem cS2_217 : cov b2 1 178585601 := cov_trans cS2_216 (cov2 tS2_217 (by decide) (by decide))
theorem tS2_218 : chk B2 (2 ^ 14) (2147483647 * one 14) (131071 * one 14) (one 14) (idx 14) 50 178585601 = true := by kernel_rfl
theorem cS2_218 : cov b2 1 179404801 := cov_trans cS2_217 (cov2 tS2_218 (by decide) (by decide))
theorem tS2_219 : chk B2 (2 ^ 14) (2147483647 * one 14) (131071 * one 14) (one 14) (idx 14) 50 179404801 = true := by kernel_rfl
theorem cS2_219 : cov b2 1 180224001 := cov_trans cS2_218 (cov2 tS2_219 (by decide) (by decide))
theorem tS2_220 : chk B2 (2 ^ 14) (2147483647 * one 14) (131071 * one 14) (one 14) (idx 14) 50 180224001 = true := by kernel_rfl
theorem cS2_220 : cov b2 1 181043201 := cov_trans cS2_219 (cov2 tS2_220 (by decide) (by decide))
theorem tS2_221 : chk B2 (2 ^ 14) (2147483647 * one 14) (131071 * one 14) (one 14) (idx 14) 50 181043201 = true := by kernel_rfl
theorem cS2_221 : cov b2 1 181862401 := cov_trans cS2_220 (cov2 tS2_221 (by decide) (by decide))
theorem tS2_222 : chk B2 (2 ^ 14) (2147483647 * one 14) (131071 * one 14) (one 14) (idx 14) 50 181862401 = true := by kernel_rfl
theorem cS2_222 : cov b2 1 182681601 := cov_trans cS2_221 (cov2 tS2_222 (by decide) (by decide))
theorem tS2_223 : chk B2 (2 ^ 14) (2147483647 * one 14) (131071 * one 14) (one 14) (idx 14) 50 182681601 = true := by kernel_rfl
theorem cS2_223 : cov b2 1 183500801 := cov_trans cS2_222 (cov2 tS2_223 (by decide) (by decide))
theorem tS2_224 : chk B2 (2 ^ 14) (2147483647 * one 14) (131071 * one 14) (one 14) (idx 14) 50 183500801 = true := by kernel_rfl
theorem cS2_224 : cov b2 1 184320001 := cov_trans cS2_223 (cov2 tS2_224 (by decide) (by decide))
theorem tS2_225 : chk B2 (2 ^ 14) (2147483647 * one 14) (131071 * one 14) (one 14) (idx 14) 50 184320001 = true := by kernel_rfl
theorem cS2_225 : cov b2 1 185139201 := cov_trans cS2_224 (cov2 tS2_225 (by decide) (by decide))
theorem tS2_226 : chk B2 (2 ^ 14) (2147483647 * one 14) (131071 * one 14) (one 14) (idx 14) 50 185139201 = true := by kernel_rfl
theorem cS2_226 : cov b2 1 185958401 := cov_trans cS2_225 (cov2 tS2_226 (by decide) (by decide))
theorem tS2_227 : chk B2 (2 ^ 14) (2147483647 * one 14) (131071 * one 14) (one 14) (idx 14) 50 185958401 = true := by kernel_rfl
theorem cS2_227 : cov b2 1 186777601 := cov_trans cS2_226 (cov2 tS2_227 (by decide) (by decide))
theorem tS2_228 : chk B2 (2 ^ 14) (2147483647 * one 14) (131071 * one 14) (one 14) (idx 14) 50 186777601 = true := by kernel_rfl
theorem cS2_228 : cov b2 1 187596801 := cov_trans cS2_227 (cov2 tS2_228 (by decide) (by decide))
theorem tS2_229 : chk B2 (2 ^ 14) (2147483647 * one 14) (131071 * one 14) (one 14) (idx 14) 50 187596801 = true := by kernel_rfl
theorem cS2_229 : cov b2 1 188416001 := cov_trans cS2_228 (cov2 tS2_229 (by decide) (by decide))
theorem tS2_230 : chk B2 (2 ^ 14) (2147483647 * one 14) (131071 * one 14) (one 14) (idx 14) 50 188416001 = true := by kernel_rfl
theorem cS2_230 : cov b2 1 189235201 := cov_trans cS2_229 (cov2 tS2_230 (by decide) (by decide))
theorem tS2_231 : chk B2 (2 ^ 14) (2147483647 * one 14) (131071 * one 14) (one 14) (idx 14) 50 189235201 = true := by kernel_rfl
theorem cS2_231 : cov b2 1 190054401 := cov_trans cS2_230 (cov2 tS2_231 (by decide) (by decide))
theorem tS2_232 : chk B2 (2 ^ 14) (2147483647 * one 14) (131071 * one 14) (one 14) (idx 14) 50 190054401 = true := by kernel_rfl
theorem cS2_232 : cov b2 1 190873601 := cov_trans cS2_231 (cov2 tS2_232 (by decide) (by decide))
theorem tS2_233 : chk B2 (2 ^ 14) (2147483647 * one 14) (131071 * one 14) (one 14) (idx 14) 50 190873601 = true := by kernel_rfl
theorem cS2_233 : cov b2 1 191692801 := cov_trans cS2_232 (cov2 tS2_233 (by decide) (by decide))
theorem tS2_234 : chk B2 (2 ^ 14) (2147483647 * one 14) (131071 * one 14) (one 14) (idx 14) 50 191692801 = true := by kernel_rfl
theorem cS2_234 : cov b2 1 192512001 := cov_trans cS2_233 (cov2 tS2_234 (by decide) (by decide))
theorem tS2_235 : chk B2 (2 ^ 14) (2147483647 * one 14) (131071 * one 14) (one 14) (idx 14) 50 192512001 = true := by kernel_rfl
theorem cS2_235 : cov b2 1 193331201 := cov_trans cS2_234 (cov2 tS2_235 (by decide) (by decide))
theorem tS2_236 : chk B2 (2 ^ 14) (2147483647 * one 14) (131071 * one 14) (one 14) (idx 14) 50 193331201 = true := by kernel_rfl
theorem cS2_236 : cov b2 1 194150401 := cov_trans cS2_235 (cov2 tS2_236 (by decide) (by decide))
theorem tS2_237 : chk B2 (2 ^ 14) (2147483647 * one 14) (131071 * one 14) (one 14) (idx 14) 50 194150401 = true := by kernel_rfl
theorem cS2_237 : cov b2 1 194969601 := cov_trans cS2_236 (cov2 tS2_237 (by decide) (by decide))
theorem tS2_238 : chk B2 (2 ^ 14) (2147483647 * one 14) (131071 * one 14) (one 14) (idx 14) 50 194969601 = true := by kernel_rfl
theorem cS2_238 : cov b2 1 195788801 := cov_trans cS2_237 (cov2 tS2_238 (by decide) (by decide))
end Simd
end Go.Proofs.Ytlnagcdnnaffgaa
