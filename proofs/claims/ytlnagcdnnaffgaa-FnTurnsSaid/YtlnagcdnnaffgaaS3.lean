/-
  Seeds from 1 on: within 40 pairs one is hit.
-/
import Derived.Test.YtlnagcdnnaffgaaSimd
namespace Go.Proofs.Ytlnagcdnnaffgaa
namespace Simd
theorem tS3_0 : chk B3 (2 ^ 14) (2147483647 * one 14) (131071 * one 14) (one 14) (idx 14) 50 1 = true := by kernel_rfl
theorem cS3_0 : cov b3 1 819201 := cov3 tS3_0 (by decide) (by decide)
theorem tS3_1 : chk B3 (2 ^ 14) (2147483647 * one 14) (131071 * one 14) (one 14) (idx 14) 50 819201 = true := by kernel_rfl
theorem cS3_1 : cov b3 1 1638401 := cov_trans cS3_0 (cov3 tS3_1 (by decide) (by decide))
theorem tS3_2 : chk B3 (2 ^ 14) (2147483647 * one 14) (131071 * one 14) (one 14) (idx 14) 50 1638401 = true := by kernel_rfl
theorem cS3_2 : cov b3 1 2457601 := cov_trans cS3_1 (cov3 tS3_2 (by decide) (by decide))
theorem tS3_3 : chk B3 (2 ^ 14) (2147483647 * one 14) (131071 * one 14) (one 14) (idx 14) 50 2457601 = true := by kernel_rfl
theorem cS3_3 : cov b3 1 3276801 := cov_trans cS3_2 (cov3 tS3_3 (by decide) (by decide))
theorem tS3_4 : chk B3 (2 ^ 14) (2147483647 * one 14) (131071 * one 14) (one 14) (idx 14) 50 3276801 = true := by kernel_rfl
theorem cS3_4 : cov b3 1 4096001 := cov_trans cS3_3 (cov3 tS3_4 (by decide) (by decide))
theorem tS3_5 : chk B3 (2 ^ 14) (2147483647 * one 14) (131071 * one 14) (one 14) (idx 14) 50 4096001 = true := by kernel_rfl
theorem cS3_5 : cov b3 1 4915201 := cov_trans cS3_4 (cov3 tS3_5 (by decide) (by decide))
theorem tS3_6 : chk B3 (2 ^ 14) (2147483647 * one 14) (131071 * one 14) (one 14) (idx 14) 50 4915201 = true := by kernel_rfl
theorem cS3_6 : cov b3 1 5734401 := cov_trans cS3_5 (cov3 tS3_6 (by decide) (by decide))
theorem tS3_7 : chk B3 (2 ^ 14) (2147483647 * one 14) (131071 * one 14) (one 14) (idx 14) 50 5734401 = true := by kernel_rfl
theorem cS3_7 : cov b3 1 6553601 := cov_trans cS3_6 (cov3 tS3_7 (by decide) (by decide))
theorem tS3_8 : chk B3 (2 ^ 14) (2147483647 * one 14) (131071 * one 14) (one 14) (idx 14) 50 6553601 = true := by kernel_rfl
theorem cS3_8 : cov b3 1 7372801 := cov_trans cS3_7 (cov3 tS3_8 (by decide) (by decide))
theorem tS3_9 : chk B3 (2 ^ 14) (2147483647 * one 14) (131071 * one 14) (one 14) (idx 14) 50 7372801 = true := by kernel_rfl
theorem cS3_9 : cov b3 1 8192001 := cov_trans cS3_8 (cov3 tS3_9 (by decide) (by decide))
theorem tS3_10 : chk B3 (2 ^ 14) (2147483647 * one 14) (131071 * one 14) (one 14) (idx 14) 50 8192001 = true := by kernel_rfl
theorem cS3_10 : cov b3 1 9011201 := cov_trans cS3_9 (cov3 tS3_10 (by decide) (by decide))
theorem tS3_11 : chk B3 (2 ^ 14) (2147483647 * one 14) (131071 * one 14) (one 14) (idx 14) 50 9011201 = true := by kernel_rfl
theorem cS3_11 : cov b3 1 9830401 := cov_trans cS3_10 (cov3 tS3_11 (by decide) (by decide))
theorem tS3_12 : chk B3 (2 ^ 14) (2147483647 * one 14) (131071 * one 14) (one 14) (idx 14) 50 9830401 = true := by kernel_rfl
theorem cS3_12 : cov b3 1 10649601 := cov_trans cS3_11 (cov3 tS3_12 (by decide) (by decide))
theorem tS3_13 : chk B3 (2 ^ 14) (2147483647 * one 14) (131071 * one 14) (one 14) (idx 14) 50 10649601 = true := by kernel_rfl
theorem cS3_13 : cov b3 1 11468801 := cov_trans cS3_12 (cov3 tS3_13 (by decide) (by decide))
theorem tS3_14 : chk B3 (2 ^ 14) (2147483647 * one 14) (131071 * one 14) (one 14) (idx 14) 50 11468801 = true := by kernel_rfl
theorem cS3_14 : cov b3 1 12288001 := cov_trans cS3_13 (cov3 tS3_14 (by decide) (by decide))
theorem tS3_15 : chk B3 (2 ^ 14) (2147483647 * one 14) (131071 * one 14) (one 14) (idx 14) 50 12288001 = true := by kernel_rfl
theorem cS3_15 : cov b3 1 13107201 := cov_trans cS3_14 (cov3 tS3_15 (by decide) (by decide))
theorem tS3_16 : chk B3 (2 ^ 14) (2147483647 * one 14) (131071 * one 14) (one 14) (idx 14) 50 13107201 = true := by kernel_rfl
theorem cS3_16 : cov b3 1 13926401 := cov_trans cS3_15 (cov3 tS3_16 (by decide) (by decide))
theorem tS3_17 : chk B3 (2 ^ 14) (2147483647 * one 14) (131071 * one 14) (one 14) (idx 14) 50 13926401 = true := by kernel_rfl
theorem cS3_17 : cov b3 1 14745601 := cov_trans cS3_16 (cov3 tS3_17 (by decide) (by decide))
theorem tS3_18 : chk B3 (2 ^ 14) (2147483647 * one 14) (131071 * one 14) (one 14) (idx 14) 50 14745601 = true := by kernel_rfl
theorem cS3_18 : cov b3 1 15564801 := cov_trans cS3_17 (cov3 tS3_18 (by decide) (by decide))
theorem tS3_19 : chk B3 (2 ^ 14) (2147483647 * one 14) (131071 * one 14) (one 14) (idx 14) 50 15564801 = true := by kernel_rfl
theorem cS3_19 : cov b3 1 16384001 := cov_trans cS3_18 (cov3 tS3_19 (by decide) (by decide))
theorem tS3_20 : chk B3 (2 ^ 14) (2147483647 * one 14) (131071 * one 14) (one 14) (idx 14) 50 16384001 = true := by kernel_rfl
theorem cS3_20 : cov b3 1 17203201 := cov_trans cS3_19 (cov3 tS3_20 (by decide) (by decide))
theorem tS3_21 : chk B3 (2 ^ 14) (2147483647 * one 14) (131071 * one 14) (one 14) (idx 14) 50 17203201 = true := by kernel_rfl
theorem cS3_21 : cov b3 1 18022401 := cov_trans cS3_20 (cov3 tS3_21 (by decide) (by decide))
theorem tS3_22 : chk B3 (2 ^ 14) (2147483647 * one 14) (131071 * one 14) (one 14) (idx 14) 50 18022401 = true := by kernel_rfl
theorem cS3_22 : cov b3 1 18841601 := cov_trans cS3_21 (cov3 tS3_22 (by decide) (by decide))
theorem tS3_23 : chk B3 (2 ^ 14) (2147483647 * one 14) (131071 * one 14) (one 14) (idx 14) 50 18841601 = true := by kernel_rfl
theorem cS3_23 : cov b3 1 19660801 := cov_trans cS3_22 (cov3 tS3_23 (by decide) (by decide))
theorem tS3_24 : chk B3 (2 ^ 14) (2147483647 * one 14) (131071 * one 14) (one 14) (idx 14) 50 19660801 = true := by kernel_rfl
theorem cS3_24 : cov b3 1 20480001 := cov_trans cS3_23 (cov3 tS3_24 (by decide) (by decide))
theorem tS3_25 : chk B3 (2 ^ 14) (2147483647 * one 14) (131071 * one 14) (one 14) (idx 14) 50 20480001 = true := by kernel_rfl
theorem cS3_25 : cov b3 1 21299201 := cov_trans cS3_24 (cov3 tS3_25 (by decide) (by decide))
theorem tS3_26 : chk B3 (2 ^ 14) (2147483647 * one 14) (131071 * one 14) (one 14) (idx 14) 50 21299201 = true := by kernel_rfl
theorem cS3_26 : cov b3 1 22118401 := cov_trans cS3_25 (cov3 tS3_26 (by decide) (by decide))
theorem tS3_27 : chk B3 (2 ^ 14) (2147483647 * one 14) (131071 * one 14) (one 14) (idx 14) 50 22118401 = true := by kernel_rfl
theorem cS3_27 : cov b3 1 22937601 := cov_trans cS3_26 (cov3 tS3_27 (by decide) (by decide))
theorem tS3_28 : chk B3 (2 ^ 14) (2147483647 * one 14) (131071 * one 14) (one 14) (idx 14) 50 22937601 = true := by kernel_rfl
theorem cS3_28 : cov b3 1 23756801 := cov_trans cS3_27 (cov3 tS3_28 (by decide) (by decide))
theorem tS3_29 : chk B3 (2 ^ 14) (2147483647 * one 14) (131071 * one 14) (one 14) (idx 14) 50 23756801 = true := by kernel_rfl
theorem cS3_29 : cov b3 1 24576001 := cov_trans cS3_28 (cov3 tS3_29 (by decide) (by decide))
theorem tS3_30 : chk B3 (2 ^ 14) (2147483647 * one 14) (131071 * one 14) (one 14) (idx 14) 50 24576001 = true := by kernel_rfl
theorem cS3_30 : cov b3 1 25395201 := cov_trans cS3_29 (cov3 tS3_30 (by decide) (by decide))
theorem tS3_31 : chk B3 (2 ^ 14) (2147483647 * one 14) (131071 * one 14) (one 14) (idx 14) 50 25395201 = true := by kernel_rfl
theorem cS3_31 : cov b3 1 26214401 := cov_trans cS3_30 (cov3 tS3_31 (by decide) (by decide))
theorem tS3_32 : chk B3 (2 ^ 14) (2147483647 * one 14) (131071 * one 14) (one 14) (idx 14) 50 26214401 = true := by kernel_rfl
theorem cS3_32 : cov b3 1 27033601 := cov_trans cS3_31 (cov3 tS3_32 (by decide) (by decide))
theorem tS3_33 : chk B3 (2 ^ 14) (2147483647 * one 14) (131071 * one 14) (one 14) (idx 14) 50 27033601 = true := by kernel_rfl
theorem cS3_33 : cov b3 1 27852801 := cov_trans cS3_32 (cov3 tS3_33 (by decide) (by decide))
theorem tS3_34 : chk B3 (2 ^ 14) (2147483647 * one 14) (131071 * one 14) (one 14) (idx 14) 50 27852801 = true := by kernel_rfl
theorem cS3_34 : cov b3 1 28672001 := cov_trans cS3_33 (cov3 tS3_34 (by decide) (by decide))
theorem tS3_35 : chk B3 (2 ^ 14) (2147483647 * one 14) (131071 * one 14) (one 14) (idx 14) 50 28672001 = true := by kernel_rfl
theorem cS3_35 : cov b3 1 29491201 := cov_trans cS3_34 (cov3 tS3_35 (by decide) (by decide))
theorem tS3_36 : chk B3 (2 ^ 14) (2147483647 * one 14) (131071 * one 14) (one 14) (idx 14) 50 29491201 = true := by kernel_rfl
theorem cS3_36 : cov b3 1 30310401 := cov_trans cS3_35 (cov3 tS3_36 (by decide) (by decide))
theorem tS3_37 : chk B3 (2 ^ 14) (2147483647 * one 14) (131071 * one 14) (one 14) (idx 14) 50 30310401 = true := by kernel_rfl
theorem cS3_37 : cov b3 1 31129601 := cov_trans cS3_36 (cov3 tS3_37 (by decide) (by decide))
theorem tS3_38 : chk B3 (2 ^ 14) (2147483647 * one 14) (131071 * one 14) (one 14) (idx 14) 50 31129601 = true := by kernel_rfl
theorem cS3_38 : cov b3 1 31948801 := cov_trans cS3_37 (cov3 tS3_38 (by decide) (by decide))
theorem tS3_39 : chk B3 (2 ^ 14) (2147483647 * one 14) (131071 * one 14) (one 14) (idx 14) 50 31948801 = true := by kernel_rfl
theorem cS3_39 : cov b3 1 32768001 := cov_trans cS3_38 (cov3 tS3_39 (by decide) (by decide))
theorem tS3_40 : chk B3 (2 ^ 14) (2147483647 * one 14) (131071 * one 14) (one 14) (idx 14) 50 32768001 = true := by kernel_rfl
theorem cS3_40 : cov b3 1 33587201 := cov_trans cS3_39 (cov3 tS3_40 (by decide) (by decide))
theorem tS3_41 : chk B3 (2 ^ 14) (2147483647 * one 14) (131071 * one 14) (one 14) (idx 14) 50 33587201 = true := by kernel_rfl
theorem cS3_41 : cov b3 1 34406401 := cov_trans cS3_40 (cov3 tS3_41 (by decide) (by decide))
theorem tS3_42 : chk B3 (2 ^ 14) (2147483647 * one 14) (131071 * one 14) (one 14) (idx 14) 50 34406401 = true := by kernel_rfl
theorem cS3_42 : cov b3 1 35225601 := cov_trans cS3_41 (cov3 tS3_42 (by decide) (by decide))
theorem tS3_43 : chk B3 (2 ^ 14) (2147483647 * one 14) (131071 * one 14) (one 14) (idx 14) 50 35225601 = true := by kernel_rfl
theorem cS3_43 : cov b3 1 36044801 := cov_trans cS3_42 (cov3 tS3_43 (by decide) (by decide))
theorem tS3_44 : chk B3 (2 ^ 14) (2147483647 * one 14) (131071 * one 14) (one 14) (idx 14) 50 36044801 = true := by kernel_rfl
theorem cS3_44 : cov b3 1 36864001 := cov_trans cS3_43 (cov3 tS3_44 (by decide) (by decide))
theorem tS3_45 : chk B3 (2 ^ 14) (2147483647 * one 14) (131071 * one 14) (one 14) (idx 14) 50 36864001 = true := by kernel_rfl
theorem cS3_45 : cov b3 1 37683201 := cov_trans cS3_44 (cov3 tS3_45 (by decide) (by decide))
theorem tS3_46 : chk B3 (2 ^ 14) (2147483647 * one 14) (131071 * one 14) (one 14) (idx 14) 50 37683201 = true := by kernel_rfl
theorem cS3_46 : cov b3 1 38502401 := cov_trans cS3_45 (cov3 tS3_46 (by decide) (by decide))
theorem tS3_47 : chk B3 (2 ^ 14) (2147483647 * one 14) (131071 * one 14) (one 14) (idx 14) 50 38502401 = true := by kernel_rfl
theorem cS3_47 : cov b3 1 39321601 := cov_trans cS3_46 (cov3 tS3_47 (by decide) (by decide))
theorem tS3_48 : chk B3 (2 ^ 14) (2147483647 * one 14) (131071 * one 14) (one 14) (idx 14) 50 39321601 = true := by kernel_rfl
theorem cS3_48 : cov b3 1 40140801 := cov_trans cS3_47 (cov3 tS3_48 (by decide) (by decide))
theorem tS3_49 : chk B3 (2 ^ 14) (2147483647 * one 14) (131071 * one 14) (one 14) (idx 14) 50 40140801 = true := by kernel_rfl
theorem cS3_49 : cov b3 1 40960001 := cov_trans cS3_48 (cov3 tS3_49 (by decide) (by decide))
theorem tS3_50 : chk B3 (2 ^ 14) (2147483647 * one 14) (131071 * one 14) (one 14) (idx 14) 50 40960001 = true := by kernel_rfl
theorem cS3_50 : cov b3 1 41779201 := cov_trans cS3_49 (cov3 tS3_50 (by decide) (by decide))
theorem tS3_51 : chk B3 (2 ^ 14) (2147483647 * one 14) (131071 * one 14) (one 14) (idx 14) 50 41779201 = true := by kernel_rfl
theorem cS3_51 : cov b3 1 42598401 := cov_trans cS3_50 (cov3 tS3_51 (by decide) (by decide))
theorem tS3_52 : chk B3 (2 ^ 14) (2147483647 * one 14) (131071 * one 14) (one 14) (idx 14) 50 42598401 = true := by kernel_rfl
theorem cS3_52 : cov b3 1 43417601 := cov_trans cS3_51 (cov3 tS3_52 (by decide) (by decide))
theorem tS3_53 : chk B3 (2 ^ 14) (2147483647 * one 14) (131071 * one 14) (one 14) (idx 14) 50 43417601 = true := by kernel_rfl
theorem cS3_53 : cov b3 1 44236801 := cov_trans cS3_52 (cov3 tS3_53 (by decide) (by decide))
theorem tS3_54 : chk B3 (2 ^ 14) (2147483647 * one 14) (131071 * one 14) (one 14) (idx 14) 50 44236801 = true := by kernel_rfl
theorem cS3_54 : cov b3 1 45056001 := cov_trans cS3_53 (cov3 tS3_54 (by decide) (by decide))
theorem tS3_55 : chk B3 (2 ^ 14) (2147483647 * one 14) (131071 * one 14) (one 14) (idx 14) 50 45056001 = true := by kernel_rfl
theorem cS3_55 : cov b3 1 45875201 := cov_trans cS3_54 (cov3 tS3_55 (by decide) (by decide))
theorem tS3_56 : chk B3 (2 ^ 14) (2147483647 * one 14) (131071 * one 14) (one 14) (idx 14) 50 45875201 = true := by kernel_rfl
theorem cS3_56 : cov b3 1 46694401 := cov_trans cS3_55 (cov3 tS3_56 (by decide) (by decide))
theorem tS3_57 : chk B3 (2 ^ 14) (2147483647 * one 14) (131071 * one 14) (one 14) (idx 14) 50 46694401 = true := by kernel_rfl
theorem cS3_57 : cov b3 1 47513601 := cov_trans cS3_56 (cov3 tS3_57 (by decide) (by decide))
theorem tS3_58 : chk B3 (2 ^ 14) (2147483647 * one 14) (131071 * one 14) (one 14) (idx 14) 50 47513601 = true := by kernel_rfl
theorem cS3_58 : cov b3 1 48332801 := cov_trans cS3_57 (cov3 tS3_58 (by decide) (by decide))
theorem tS3_59 : chk B3 (2 ^ 14) (2147483647 * one 14) (131071 * one 14) (one 14) (idx 14) 50 48332801 = true := by kernel_rfl
theorem cS3_59 : cov b3 1 49152001 := cov_trans cS3_58 (cov3 tS3_59 (by decide) (by decide))
theorem tS3_60 : chk B3 (2 ^ 14) (2147483647 * one 14) (131071 * one 14) (one 14) (idx 14) 50 49152001 = true := by kernel_rfl
theorem cS3_60 : cov b3 1 49971201 := cov_trans cS3_59 (cov3 tS3_60 (by decide) (by decide))
theorem tS3_61 : chk B3 (2 ^ 14) (2147483647 * one 14) (131071 * one 14) (one 14) (idx 14) 50 49971201 = true := by kernel_rfl
theorem cS3_61 : cov b3 1 50790401 := cov_trans cS3_60 (cov3 tS3_61 (by decide) (by decide))
theorem tS3_62 : chk B3 (2 ^ 14) (2147483647 * one 14) (131071 * one 14) (one 14) (idx 14) 50 50790401 = true := by kernel_rfl
theorem cS3_62 : cov b3 1 51609601 := cov_trans cS3_61 (cov3 tS3_62 (by decide) (by decide))
theorem tS3_63 : chk B3 (2 ^ 14) (2147483647 * one 14) (131071 * one 14) (one 14) (idx 14) 50 51609601 = true := by kernel_rfl
theorem cS3_63 : cov b3 1 52428801 := cov_trans cS3_62 (cov3 tS3_63 (by decide) (by decide))
theorem tS3_64 : chk B3 (2 ^ 14) (2147483647 * one 14) (131071 * one 14) (one 14) (idx 14) 50 52428801 = true := by kernel_rfl
theorem cS3_64 : cov b3 1 53248001 := cov_trans cS3_63 (cov3 tS3_64 (by decide) (by decide))
theorem tS3_65 : chk B3 (2 ^ 14) (2147483647 * one 14) (131071 * one 14) (one 14) (idx 14) 50 53248001 = true := by kernel_rfl
theorem cS3_65 : cov b3 1 54067201 := cov_trans cS3_64 (cov3 tS3_65 (by decide) (by decide))
theorem tS3_66 : chk B3 (2 ^ 14) (2147483647 * one 14) (131071 * one 14) (one 14) (idx 14) 50 54067201 = true := by kernel_rfl
theorem cS3_66 : cov b3 1 54886401 := cov_trans cS3_65 (cov3 tS3_66 (by decide) (by decide))
theorem tS3_67 : chk B3 (2 ^ 14) (2147483647 * one 14) (131071 * one 14) (one 14) (idx 14) 50 54886401 = true := by kernel_rfl
theorem cS3_67 : cov b3 1 55705601 := cov_trans cS3_66 (cov3 tS3_67 (by decide) (by decide))
theorem tS3_68 : chk B3 (2 ^ 14) (2147483647 * one 14) (131071 * one 14) (one 14) (idx 14) 50 55705601 = true := by kernel_rfl
theorem cS3_68 : cov b3 1 56524801 := cov_trans cS3_67 (cov3 tS3_68 (by decide) (by decide))
theorem tS3_69 : chk B3 (2 ^ 14) (2147483647 * one 14) (131071 * one 14) (one 14) (idx 14) 50 56524801 = true := by kernel_rfl
theorem cS3_69 : cov b3 1 57344001 := cov_trans cS3_68 (cov3 tS3_69 (by decide) (by decide))
theorem tS3_70 : chk B3 (2 ^ 14) (2147483647 * one 14) (131071 * one 14) (one 14) (idx 14) 50 57344001 = true := by kernel_rfl
theorem cS3_70 : cov b3 1 58163201 := cov_trans cS3_69 (cov3 tS3_70 (by decide) (by decide))
theorem tS3_71 : chk B3 (2 ^ 14) (2147483647 * one 14) (131071 * one 14) (one 14) (idx 14) 50 58163201 = true := by kernel_rfl
theorem cS3_71 : cov b3 1 58982401 := cov_trans cS3_70 (cov3 tS3_71 (by decide) (by decide))
theorem tS3_72 : chk B3 (2 ^ 14) (2147483647 * one 14) (131071 * one 14) (one 14) (idx 14) 50 58982401 = true := by kernel_rfl
theorem cS3_72 : cov b3 1 59801601 := cov_trans cS3_71 (cov3 tS3_72 (by decide) (by decide))
theorem tS3_73 : chk B3 (2 ^ 14) (2147483647 * one 14) (131071 * one 14) (one 14) (idx 14) 50 59801601 = true := by kernel_rfl
theorem cS3_73 : cov b3 1 60620801 := cov_trans cS3_72 (cov3 tS3_73 (by decide) (by decide))
theorem tS3_74 : chk B3 (2 ^ 14) (2147483647 * one 14) (131071 * one 14) (one 14) (idx 14) 50 60620801 = true := by kernel_rfl
theorem cS3_74 : cov b3 1 61440001 := cov_trans cS3_73 (cov3 tS3_74 (by decide) (by decide))
theorem tS3_75 : chk B3 (2 ^ 14) (2147483647 * one 14) (131071 * one 14) (one 14) (idx 14) 50 61440001 = true := by kernel_rfl
theorem cS3_75 : cov b3 1 62259201 := cov_trans cS3_74 (cov3 tS3_75 (by decide) (by decide))
theorem tS3_76 : chk B3 (2 ^ 14) (2147483647 * one 14) (131071 * one 14) (one 14) (idx 14) 50 62259201 = true := by kernel_rfl
theorem cS3_76 : cov b3 1 63078401 := cov_trans cS3_75 (cov3 tS3_76 (by decide) (by decide))
theorem tS3_77 : chk B3 (2 ^ 14) (2147483647 * one 14) (131071 * one 14) (one 14) (idx 14) 50 63078401 = true := by kernel_rfl
theorem cS3_77 : cov b3 1 63897601 := cov_trans cS3_76 (cov3 tS3_77 (by decide) (by decide))
theorem tS3_78 : chk B3 (2 ^ 14) (2147483647 * one 14) (131071 * one 14) (one 14) (idx 14) 50 63897601 = true := by kernel_rfl
theorem cS3_78 : cov b3 1 64716801 := cov_trans cS3_77 (cov3 tS3_78 (by decide) (by decide))
theorem tS3_79 : chk B3 (2 ^ 14) (2147483647 * one 14) (131071 * one 14) (one 14) (idx 14) 50 64716801 = true := by kernel_rfl
theorem cS3_79 : cov b3 1 65536001 := cov_trans cS3_78 (cov3 tS3_79 (by decide) (by decide))
theorem tS3_80 : chk B3 (2 ^ 14) (2147483647 * one 14) (131071 * one 14) (one 14) (idx 14) 50 65536001 = true := by kernel_rfl
theorem cS3_80 : cov b3 1 66355201 := cov_trans cS3_79 (cov3 tS3_80 (by decide) (by decide))
theorem tS3_81 : chk B3 (2 ^ 14) (2147483647 * one 14) (131071 * one 14) (one 14) (idx 14) 50 66355201 = true := by kernel_rfl
theorem cS3_81 : cov b3 1 67174401 := cov_trans cS3_80 (cov3 tS3_81 (by decide) (by decide))
theorem tS3_82 : chk B3 (2 ^ 14) (2147483647 * one 14) (131071 * one 14) (one 14) (idx 14) 50 67174401 = true := by kernel_rfl
theorem cS3_82 : cov b3 1 67993601 := cov_trans cS3_81 (cov3 tS3_82 (by decide) (by decide))
theorem tS3_83 : chk B3 (2 ^ 14) (2147483647 * one 14) (131071 * one 14) (one 14) (idx 14) 50 67993601 = true := by kernel_rfl
theorem cS3_83 : cov b3 1 68812801 := cov_trans cS3_82 (cov3 tS3_83 (by decide) (by decide))
theorem tS3_84 : chk B3 (2 ^ 14) (2147483647 * one 14) (131071 * one 14) (one 14) (idx 14) 50 68812801 = true := by kernel_rfl
theorem cS3_84 : cov b3 1 69632001 := cov_trans cS3_83 (cov3 tS3_84 (by decide) (by decide))
theorem tS3_85 : chk B3 (2 ^ 14) (2147483647 * one 14) (131071 * one 14) (one 14) (idx 14) 50 69632001 = true := by kernel_rfl
theorem cS3_85 : cov b3 1 70451201 := cov_trans cS3_84 (cov3 tS3_85 (by decide) (by decide))
theorem tS3_86 : chk B3 (2 ^ 14) (2147483647 * one 14) (131071 * one 14) (one 14) (idx 14) 50 70451201 = true := by kernel_rfl
theorem cS3_86 : cov b3 1 71270401 := cov_trans cS3_85 (cov3 tS3_86 (by decide) (by decide))
theorem tS3_87 : chk B3 (2 ^ 14) (2147483647 * one 14) (131071 * one 14) (one 14) (idx 14) 50 71270401 = true := by kernel_rfl
theorem cS3_87 : cov b3 1 72089601 := cov_trans cS3_86 (cov3 tS3_87 (by decide) (by decide))
theorem tS3_88 : chk B3 (2 ^ 14) (2147483647 * one 14) (131071 * one 14) (one 14) (idx 14) 50 72089601 = true := by kernel_rfl
theorem cS3_88 : cov b3 1 72908801 := cov_trans cS3_87 (cov3 tS3_88 (by decide) (by decide))
theorem tS3_89 : chk B3 (2 ^ 14) (2147483647 * one 14) (131071 * one 14) (one 14) (idx 14) 50 72908801 = true := by kernel_rfl
theorem cS3_89 : cov b3 1 73728001 := cov_trans cS3_88 (cov3 tS3_89 (by decide) (by decide))
theorem tS3_90 : chk B3 (2 ^ 14) (2147483647 * one 14) (131071 * one 14) (one 14) (idx 14) 50 73728001 = true := by kernel_rfl
theorem cS3_90 : cov b3 1 74547201 := cov_trans cS3_89 (cov3 tS3_90 (by decide) (by decide))
theorem tS3_91 : chk B3 (2 ^ 14) (2147483647 * one 14) (131071 * one 14) (one 14) (idx 14) 50 74547201 = true := by kernel_rfl
theorem cS3_91 : cov b3 1 75366401 := cov_trans cS3_90 (cov3 tS3_91 (by decide) (by decide))
theorem tS3_92 : chk B3 (2 ^ 14) (2147483647 * one 14) (131071 * one 14) (one 14) (idx 14) 50 75366401 = true := by kernel_rfl
theorem cS3_92 : cov b3 1 76185601 := cov_trans cS3_91 (cov3 tS3_92 (by decide) (by decide))
theorem tS3_93 : chk B3 (2 ^ 14) (2147483647 * one 14) (131071 * one 14) (one 14) (idx 14) 50 76185601 = true := by kernel_rfl
theorem cS3_93 : cov b3 1 77004801 := cov_trans cS3_92 (cov3 tS3_93 (by decide) (by decide))
theorem tS3_94 : chk B3 (2 ^ 14) (2147483647 * one 14) (131071 * one 14) (one 14) (idx 14) 50 77004801 = true := by kernel_rfl
theorem cS3_94 : cov b3 1 77824001 := cov_trans cS3_93 (cov3 tS3_94 (by decide) (by decide))
theorem tS3_95 : chk B3 (2 ^ 14) (2147483647 * one 14) (131071 * one 14) (one 14) (idx 14) 50 77824001 = true := by kernel_rfl
theorem cS3_95 : cov b3 1 78643201 := cov_trans cS3_94 (cov3 tS3_95 (by decide) (by decide))
theorem tS3_96 : chk B3 (2 ^ 14) (2147483647 * one 14) (131071 * one 14) (one 14) (idx 14) 50 78643201 = true := by kernel_rfl
theorem cS3_96 : cov b3 1 79462401 := cov_trans cS3_95 (cov3 tS3_96 (by decide) (by decide))
theorem tS3_97 : chk B3 (2 ^ 14) (2147483647 * one 14) (131071 * one 14) (one 14) (idx 14) 50 79462401 = true := by kernel_rfl
theorem cS3_97 : cov b3 1 80281601 := cov_trans cS3_96 (cov3 tS3_97 (by decide) (by decide))
theorem tS3_98 : chk B3 (2 ^ 14) (2147483647 * one 14) (131071 * one 14) (one 14) (idx 14) 50 80281601 = true := by kernel_rfl
theorem cS3_98 : cov b3 1 81100801 := cov_trans cS3_97 (cov3 tS3_98 (by decide) (by decide))
theorem tS3_99 : chk B3 (2 ^ 14) (2147483647 * one 14) (131071 * one 14) (one 14) (idx 14) 50 81100801 = true := by kernel_rfl
theorem cS3_99 : cov b3 1 81920001 := cov_trans cS3_98 (cov3 tS3_99 (by decide) (by decide))
theorem tS3_100 : chk B3 (2 ^ 14) (2147483647 * one 14) (131071 * one 14) (one 14) (idx 14) 50 81920001 = true := by kernel_rfl
theorem cS3_100 : cov b3 1 82739201 := cov_trans cS3_99 (cov3 tS3_100 (by decide) (by decide))
theorem tS3_101 : chk B3 (2 ^ 14) (2147483647 * one 14) (131071 * one 14) (one 14) (idx 14) 50 82739201 = true := by kernel_rfl
theorem cS3_101 : cov b3 1 83558401 := cov_trans cS3_100 (cov3 tS3_101 (by decide) (by decide))
theorem tS3_102 : chk B3 (2 ^ 14) (2147483647 * one 14) (131071 * one 14) (one 14) (idx 14) 50 83558401 = true := by kernel_rfl
theorem cS3_102 : cov b3 1 84377601 := cov_trans cS3_101 (cov3 tS3_102 (by decide) (by decide))
theorem tS3_103 : chk B3 (2 ^ 14) (2147483647 * one 14) (131071 * one 14) (one 14) (idx 14) 50 84377601 = true := by kernel_rfl
theorem cS3_103 : cov b3 1 85196801 := cov_trans cS3_102 (cov3 tS3_103 (by decide) (by decide))
theorem tS3_104 : chk B3 (2 ^ 14) (2147483647 * one 14) (131071 * one 14) (one 14) (idx 14) 50 85196801 = true := by kernel_rfl
theorem cS3_104 : cov b3 1 86016001 := cov_trans cS3_103 (cov3 tS3_104 (by decide) (by decide))
theorem tS3_105 : chk B3 (2 ^ 14) (2147483647 * one 14) (131071 * one 14) (one 14) (idx 14) 50 86016001 = true := by kernel_rfl
theorem cS3_105 : cov b3 1 86835201 := cov_trans cS3_104 (cov3 tS3_105 (by decide) (by decide))
theorem tS3_106 : chk B3 (2 ^ 14) (2147483647 * one 14) (131071 * one 14) (one 14) (idx 14) 50 86835201 = true := by kernel_rfl
theorem cS3_106 : cov b3 1 87654401 := cov_trans cS3_105 (cov3 tS3_106 (by decide) (by decide))
theorem tS3_107 : chk B3 (2 ^ 14) (2147483647 * one 14) (131071 * one 14) (one 14) (idx 14) 50 87654401 = true := by kernel_rfl
theorem cS3_107 : cov b3 1 88473601 := cov_trans cS3_106 (cov3 tS3_107 (by decide) (by decide))
theorem tS3_108 : chk B3 (2 ^ 14) (2147483647 * one 14) (131071 * one 14) (one 14) (idx 14) 50 88473601 = true := by kernel_rfl
theorem cS3_108 : cov b3 1 89292801 := cov_trans cS3_107 (cov3 tS3_108 (by decide) (by decide))
theorem tS3_109 : chk B3 (2 ^ 14) (2147483647 * one 14) (131071 * one 14) (one 14) (idx 14) 50 89292801 = true := by kernel_rfl
theorem cS3_109 : cov b3 1 90112001 := cov_trans cS3_108 (cov3 tS3_109 (by decide) (by decide))
theorem tS3_110 : chk B3 (2 ^ 14) (2147483647 * one 14) (131071 * one 14) (one 14) (idx 14) 50 90112001 = true := by kernel_rfl
theorem cS3_110 : cov b3 1 90931201 := cov_trans cS3_109 (cov3 tS3_110 (by decide) (by decide))
theorem tS3_111 : chk B3 (2 ^ 14) (2147483647 * one 14) (131071 * one 14) (one 14) (idx 14) 50 90931201 = true := by kernel_rfl
theorem cS3_111 : cov b3 1 91750401 := cov_trans cS3_110 (cov3 tS3_111 (by decide) (by decide))
theorem tS3_112 : chk B3 (2 ^ 14) (2147483647 * one 14) (131071 * one 14) (one 14) (idx 14) 50 91750401 = true := by kernel_rfl
theorem cS3_112 : cov b3 1 92569601 := cov_trans cS3_111 (cov3 tS3_112 (by decide) (by decide))
theorem tS3_113 : chk B3 (2 ^ 14) (2147483647 * one 14) (131071 * one 14) (one 14) (idx 14) 50 92569601 = true := by kernel_rfl
theorem cS3_113 : cov b3 1 93388801 := cov_trans cS3_112 (cov3 tS3_113 (by decide) (by decide))
theorem tS3_114 : chk B3 (2 ^ 14) (2147483647 * one 14) (131071 * one 14) (one 14) (idx 14) 50 93388801 = true := by kernel_rfl
theorem cS3_114 : cov b3 1 94208001 := cov_trans cS3_113 (cov3 tS3_114 (by decide) (by decide))
theorem tS3_115 : chk B3 (2 ^ 14) (2147483647 * one 14) (131071 * one 14) (one 14) (idx 14) 50 94208001 = true := by kernel_rfl
theorem cS3_115 : cov b3 1 95027201 := cov_trans cS3_114 (cov3 tS3_115 (by decide) (by decide))
theorem tS3_116 : chk B3 (2 ^ 14) (2147483647 * one 14) (131071 * one 14) (one 14) (idx 14) 50 95027201 = true := by kernel_rfl
theorem cS3_116 : cov b3 1 95846401 := cov_trans cS3_115 (cov3 tS3_116 (by decide) (by decide))
theorem tS3_117 : chk B3 (2 ^ 14) (2147483647 * one 14) (131071 * one 14) (one 14) (idx 14) 50 95846401 = true := by kernel_rfl
theorem cS3_117 : cov b3 1 96665601 := cov_trans cS3_116 (cov3 tS3_117 (by decide) (by decide))
theorem tS3_118 : chk B3 (2 ^ 14) (2147483647 * one 14) (131071 * one 14) (one 14) (idx 14) 50 96665601 = true := by kernel_rfl
theorem cS3_118 : cov b3 1 97484801 := cov_trans cS3_117 (cov3 tS3_118 (by decide) (by decide))
theorem tS3_119 : chk B3 (2 ^ 14) (2147483647 * one 14) (131071 * one 14) (one 14) (idx 14) 50 97484801 = true := by kernel_rfl
theorem cS3_119 : cov b3 1 98304001 := cov_trans cS3_118 (cov3 tS3_119 (by decide) (by decide))
theorem tS3_120 : chk B3 (2 ^ 14) (2147483647 * one 14) (131071 * one 14) (one 14) (idx 14) 50 98304001 = true := by kernel_rfl
theorem cS3_120 : cov b3 1 99123201 := cov_trans cS3_119 (cov3 tS3_120 (by decide) (by decide))
theorem tS3_121 : chk B3 (2 ^ 14) (2147483647 * one 14) (131071 * one 14) (one 14) (idx 14) 50 99123201 = true := by kernel_rfl
theorem cS3_121 : cov b3 1 99942401 := cov_trans cS3_120 (cov3 tS3_121 (by decide) (by decide))
theorem tS3_122 : chk B3 (2 ^ 14) (2147483647 * one 14) (131071 * one 14) (one 14) (idx 14) 50 99942401 = true := by kernel_rfl
theorem cS3_122 : cov b3 1 100761601 := cov_trans cS3_121 (cov3 tS3_122 (by decide) (by decide))
theorem tS3_123 : chk B3 (2 ^ 14) (2147483647 * one 14) (131071 * one 14) (one 14) (idx 14) 50 100761601 = true := by kernel_rfl
theorem cS3_123 : cov b3 1 101580801 := cov_trans cS3_122 (cov3 tS3_123 (by decide) (by decide))
theorem tS3_124 : chk B3 (2 ^ 14) (2147483647 * one 14) (131071 * one 14) (one 14) (idx 14) 50 101580801 = true := by kernel_rfl
theorem cS3_124 : cov b3 1 102400001 := cov_trans cS3_123 (cov3 tS3_124 (by decide) (by decide))
theorem tS3_125 : chk B3 (2 ^ 14) (2147483647 * one 14) (131071 * one 14) (one 14) (idx 14) 50 102400001 = true := by kernel_rfl
theorem cS3_125 : cov b3 1 103219201 := cov_trans cS3_124 (cov3 tS3_125 (by decide) (by decide))
theorem tS3_126 : chk B3 (2 ^ 14) (2147483647 * one 14) (131071 * one 14) (one 14) (idx 14) 50 103219201 = true := by kernel_rfl
theorem cS3_126 : cov b3 1 104038401 := cov_trans cS3_125 (cov3 tS3_126 (by decide) (by decide))
theorem tS3_127 : chk B3 (2 ^ 14) (2147483647 * one 14) (131071 * one 14) (one 14) (idx 14) 50 104038401 = true := by kernel_rfl
theorem cS3_127 : cov b3 1 104857601 := cov_trans cS3_126 (cov3 tS3_127 (by decide) (by decide))
theorem tS3_128 : chk B3 (2 ^ 14) (2147483647 * one 14) (131071 * one 14) (one 14) (idx 14) 50 104857601 = true := by kernel_rfl
theorem cS3_128 : cov b3 1 105676801 := cov_trans cS3_127 (cov3 tS3_128 (by decide) (by decide))
theorem tS3_129 : chk B3 (2 ^ 14) (2147483647 * one 14) (131071 * one 14) (one 14) (idx 14) 50 105676801 = true := by kernel_rfl
theorem cS3_129 : cov b3 1 106496001 := cov_trans cS3_128 (cov3 tS3_129 (by decide) (by decide))
theorem tS3_130 : chk B3 (2 ^ 14) (2147483647 * one 14) (131071 * one 14) (one 14) (idx 14) 50 106496001 = true := by kernel_rfl
theorem cS3_130 : cov b3 1 107315201 := cov_trans cS3_129 (cov3 tS3_130 (by decide) (by decide))
theorem tS3_131 : chk B3 (2 ^ 14) (2147483647 * one 14) (131071 * one 14) (one 14) (idx 14) 50 107315201 = true := by kernel_rfl
theorem cS3_131 : cov b3 1 108134401 := cov_trans cS3_130 (cov3 tS3_131 (by decide) (by decide))
theorem tS3_132 : chk B3 (2 ^ 14) (2147483647 * one 14) (131071 * one 14) (one 14) (idx 14) 50 108134401 = true := by kernel_rfl
theorem cS3_132 : cov b3 1 108953601 := cov_trans cS3_131 (cov3 tS3_132 (by decide) (by decide))
theorem tS3_133 : chk B3 (2 ^ 14) (2147483647 * one 14) (131071 * one 14) (one 14) (idx 14) 50 108953601 = true := by kernel_rfl
theorem cS3_133 : cov b3 1 109772801 := cov_trans cS3_132 (cov3 tS3_133 (by decide) (by decide))
theorem tS3_134 : chk B3 (2 ^ 14) (2147483647 * one 14) (131071 * one 14) (one 14) (idx 14) 50 109772801 = true := by kernel_rfl
theorem cS3_134 : cov b3 1 110592001 := cov_trans cS3_133 (cov3 tS3_134 (by decide) (by decide))
theorem tS3_135 : chk B3 (2 ^ 14) (2147483647 * one 14) (131071 * one 14) (one 14) (idx 14) 50 110592001 = true := by kernel_rfl
theorem cS3_135 : cov b3 1 111411201 := cov_trans cS3_134 (cov3 tS3_135 (by decide) (by decide))
theorem tS3_136 : chk B3 (2 ^ 14) (2147483647 * one 14) (131071 * one 14) (one 14) (idx 14) 50 111411201 = true := by kernel_rfl
theorem cS3_136 : cov b3 1 112230401 := cov_trans cS3_135 (cov3 tS3_136 (by decide) (by decide))
theorem tS3_137 : chk B3 (2 ^ 14) (2147483647 * one 14) (131071 * one 14) (one 14) (idx 14) 50 112230401 = true := by kernel_rfl
theorem cS3_137 : cov b3 1 113049601 := cov_trans cS3_136 (cov3 tS3_137 (by decide) (by decide))
theorem tS3_138 : chk B3 (2 ^ 14) (2147483647 * one 14) (131071 * one 14) (one 14) (idx 14) 50 113049601 = true := by kernel_rfl
theorem cS3_138 : cov b3 1 113868801 := cov_trans cS3_137 (cov3 tS3_138 (by decide) (by decide))
theorem tS3_139 : chk B3 (2 ^ 14) (2147483647 * one 14) (131071 * one 14) (one 14) (idx 14) 50 113868801 = true := by kernel_rfl
theorem cS3_139 : cov b3 1 114688001 := cov_trans cS3_138 (cov3 tS3_139 (by decide) (by decide))
theorem tS3_140 : chk B3 (2 ^ 14) (2147483647 * one 14) (131071 * one 14) (one 14) (idx 14) 50 114688001 = true := by kernel_rfl
theorem cS3_140 : cov b3 1 115507201 := cov_trans cS3_139 (cov3 tS3_140 (by decide) (by decide))
theorem tS3_141 : chk B3 (2 ^ 14) (2147483647 * one 14) (131071 * one 14) (one 14) (idx 14) 50 115507201 = true := by kernel_rfl
theorem cS3_141 : cov b3 1 116326401 := cov_trans cS3_140 (cov3 tS3_141 (by decide) (by decide))
theorem tS3_142 : chk B3 (2 ^ 14) (2147483647 * one 14) (131071 * one 14) (one 14) (idx 14) 50 116326401 = true := by kernel_rfl
theorem cS3_142 : cov b3 1 117145601 := cov_trans cS3_141 (cov3 tS3_142 (by decide) (by decide))
theorem tS3_143 : chk B3 (2 ^ 14) (2147483647 * one 14) (131071 * one 14) (one 14) (idx 14) 50 117145601 = true := by kernel_rfl
theorem cS3_143 : cov b3 1 117964801 := cov_trans cS3_142 (cov3 tS3_143 (by decide) (by decide))
theorem tS3_144 : chk B3 (2 ^ 14) (2147483647 * one 14) (131071 * one 14) (one 14) (idx 14) 50 117964801 = true := by kernel_rfl
theorem cS3_144 : cov b3 1 118784001 := cov_trans cS3_143 (cov3 tS3_144 (by decide) (by decide))
theorem tS3_145 : chk B3 (2 ^ 14) (2147483647 * one 14) (131071 * one 14) (one 14) (idx 14) 50 118784001 = true := by kernel_rfl
theorem cS3_145 : cov b3 1 119603201 := cov_trans cS3_144 (cov3 tS3_145 (by decide) (by decide))
theorem tS3_146 : chk B3 (2 ^ 14) (2147483647 * one 14) (131071 * one 14) (one 14) (idx 14) 50 119603201 = true := by kernel_rfl
theorem cS3_146 : cov b3 1 120422401 := cov_trans cS3_145 (cov3 tS3_146 (by decide) (by decide))
theorem tS3_147 : chk B3 (2 ^ 14) (2147483647 * one 14) (131071 * one 14) (one 14) (idx 14) 50 120422401 = true := by kernel_rfl
theorem cS3_147 : cov b3 1 121241601 := cov_trans cS3_146 (cov3 tS3_147 (by decide) (by decide))
theorem tS3_148 : chk B3 (2 ^ 14) (2147483647 * one 14) (131071 * one 14) (one 14) (idx 14) 50 121241601 = true := by kernel_rfl
theorem cS3_148 : cov b3 1 122060801 := cov_trans cS3_147 (cov3 tS3_148 (by decide) (by decide))
theorem tS3_149 : chk B3 (2 ^ 14) (2147483647 * one 14) (131071 * one 14) (one 14) (idx 14) 50 122060801 = true := by kernel_rfl
theorem cS3_149 : cov b3 1 122880001 := cov_trans cS3_148 (cov3 tS3_149 (by decide) (by decide))
theorem tS3_150 : chk B3 (2 ^ 14) (2147483647 * one 14) (131071 * one 14) (one 14) (idx 14) 50 122880001 = true := by kernel_rfl
theorem cS3_150 : cov b3 1 123699201 := cov_trans cS3_149 (cov3 tS3_150 (by decide) (by decide))
theorem tS3_151 : chk B3 (2 ^ 14) (2147483647 * one 14) (131071 * one 14) (one 14) (idx 14) 50 123699201 = true := by kernel_rfl
theorem cS3_151 : cov b3 1 124518401 := cov_trans cS3_150 (cov3 tS3_151 (by decide) (by decide))
theorem tS3_152 : chk B3 (2 ^ 14) (2147483647 * one 14) (131071 * one 14) (one 14) (idx 14) 50 124518401 = true := by kernel_rfl
theorem cS3_152 : cov b3 1 125337601 := cov_trans cS3_151 (cov3 tS3_152 (by decide) (by decide))
theorem tS3_153 : chk B3 (2 ^ 14) (2147483647 * one 14) (131071 * one 14) (one 14) (idx 14) 50 125337601 = true := by kernel_rfl
theorem cS3_153 : cov b3 1 126156801 := cov_trans cS3_152 (cov3 tS3_153 (by decide) (by decide))
theorem tS3_154 : chk B3 (2 ^ 14) (2147483647 * one 14) (131071 * one 14) (one 14) (idx 14) 50 126156801 = true := by kernel_rfl
theorem cS3_154 : cov b3 1 126976001 := cov_trans cS3_153 (cov3 tS3_154 (by decide) (by decide))
theorem tS3_155 : chk B3 (2 ^ 14) (2147483647 * one 14) (131071 * one 14) (one 14) (idx 14) 50 126976001 = true := by kernel_rfl
theorem cS3_155 : cov b3 1 127795201 := cov_trans cS3_154 (cov3 tS3_155 (by decide) (by decide))
theorem tS3_156 : chk B3 (2 ^ 14) (2147483647 * one 14) (131071 * one 14) (one 14) (idx 14) 50 127795201 = true := by kernel_rfl
theorem cS3_156 : cov b3 1 128614401 := cov_trans cS3_155 (cov3 tS3_156 (by decide) (by decide))
theorem tS3_157 : chk B3 (2 ^ 14) (2147483647 * one 14) (131071 * one 14) (one 14) (idx 14) 50 128614401 = true := by kernel_rfl
theorem cS3_157 : cov b3 1 129433601 := cov_trans cS3_156 (cov3 tS3_157 (by decide) (by decide))
theorem tS3_158 : chk B3 (2 ^ 14) (2147483647 * one 14) (131071 * one 14) (one 14) (idx 14) 50 129433601 = true := by kernel_rfl
theorem cS3_158 : cov b3 1 130252801 := cov_trans cS3_157 (cov3 tS3_158 (by decide) (by decide))
theorem tS3_159 : chk B3 (2 ^ 14) (2147483647 * one 14) (131071 * one 14) (one 14) (idx 14) 50 130252801 = true := by kernel_rfl
theorem cS3_159 : cov b3 1 131072001 := cov_trans cS3_158 (cov3 tS3_159 (by decide) (by decide))
theorem tS3_160 : chk B3 (2 ^ 14) (2147483647 * one 14) (131071 * one 14) (one 14) (idx 14) 50 131072001 = true := by kernel_rfl
theorem cS3_160 : cov b3 1 131891201 := cov_trans cS3_159 (cov3 tS3_160 (by decide) (by decide))
theorem tS3_161 : chk B3 (2 ^ 14) (2147483647 * one 14) (131071 * one 14) (one 14) (idx 14) 50 131891201 = true := by kernel_rfl
theorem cS3_161 : cov b3 1 132710401 := cov_trans cS3_160 (cov3 tS3_161 (by decide) (by decide))
theorem tS3_162 : chk B3 (2 ^ 14) (2147483647 * one 14) (131071 * one 14) (one 14) (idx 14) 50 132710401 = true := by kernel_rfl
theorem cS3_162 : cov b3 1 133529601 := cov_trans cS3_161 (cov3 tS3_162 (by decide) (by decide))
theorem tS3_163 : chk B3 (2 ^ 14) (2147483647 * one 14) (131071 * one 14) (one 14) (idx 14) 50 133529601 = true := by kernel_rfl
theorem cS3_163 : cov b3 1 134348801 := cov_trans cS3_162 (cov3 tS3_163 (by decide) (by decide))
theorem tS3_164 : chk B3 (2 ^ 14) (2147483647 * one 14) (131071 * one 14) (one 14) (idx 14) 50 134348801 = true := by kernel_rfl
theorem cS3_164 : cov b3 1 135168001 := cov_trans cS3_163 (cov3 tS3_164 (by decide) (by decide))
theorem tS3_165 : chk B3 (2 ^ 14) (2147483647 * one 14) (131071 * one 14) (one 14) (idx 14) 50 135168001 = true := by kernel_rfl
theorem cS3_165 : cov b3 1 135987201 := cov_trans cS3_164 (cov3 tS3_165 (by decide) (by decide))
theorem tS3_166 : chk B3 (2 ^ 14) (2147483647 * one 14) (131071 * one 14) (one 14) (idx 14) 50 135987201 = true := by kernel_rfl
theorem cS3_166 : cov b3 1 136806401 := cov_trans cS3_165 (cov3 tS3_166 (by decide) (by decide))
theorem tS3_167 : chk B3 (2 ^ 14) (2147483647 * one 14) (131071 * one 14) (one 14) (idx 14) 50 136806401 = true := by kernel_rfl
theorem cS3_167 : cov b3 1 137625601 := cov_trans cS3_166 (cov3 tS3_167 (by decide) (by decide))
theorem tS3_168 : chk B3 (2 ^ 14) (2147483647 * one 14) (131071 * one 14) (one 14) (idx 14) 50 137625601 = true := by kernel_rfl
theorem cS3_168 : cov b3 1 138444801 := cov_trans cS3_167 (cov3 tS3_168 (by decide) (by decide))
theorem tS3_169 : chk B3 (2 ^ 14) (2147483647 * one 14) (131071 * one 14) (one 14) (idx 14) 50 138444801 = true := by kernel_rfl
theorem cS3_169 : cov b3 1 139264001 := cov_trans cS3_168 (cov3 tS3_169 (by decide) (by decide))
theorem tS3_170 : chk B3 (2 ^ 14) (2147483647 * one 14) (131071 * one 14) (one 14) (idx 14) 50 139264001 = true := by kernel_rfl
theorem cS3_170 : cov b3 1 140083201 := cov_trans cS3_169 (cov3 tS3_170 (by decide) (by decide))
theorem tS3_171 : chk B3 (2 ^ 14) (2147483647 * one 14) (131071 * one 14) (one 14) (idx 14) 50 140083201 = true := by kernel_rfl
theorem cS3_171 : cov b3 1 140902401 := cov_trans cS3_170 (cov3 tS3_171 (by decide) (by decide))
theorem tS3_172 : chk B3 (2 ^ 14) (2147483647 * one 14) (131071 * one 14) (one 14) (idx 14) 50 140902401 = true := by kernel_rfl
theorem cS3_172 : cov b3 1 141721601 := cov_trans cS3_171 (cov3 tS3_172 (by decide) (by decide))
theorem tS3_173 : chk B3 (2 ^ 14) (2147483647 * one 14) (131071 * one 14) (one 14) (idx 14) 50 141721601 = true := by kernel_rfl
theorem cS3_173 : cov b3 1 142540801 := cov_trans cS3_172 (cov3 tS3_173 (by decide) (by decide))
theorem tS3_174 : chk B3 (2 ^ 14) (2147483647 * one 14) (131071 * one 14) (one 14) (idx 14) 50 142540801 = true := by kernel_rfl
theorem cS3_174 : cov b3 1 143360001 := cov_trans cS3_173 (cov3 tS3_174 (by decide) (by decide))
theorem tS3_175 : chk B3 (2 ^ 14) (2147483647 * one 14) (131071 * one 14) (one 14) (idx 14) 50 143360001 = true := by kernel_rfl
theorem cS3_175 : cov b3 1 144179201 := cov_trans cS3_174 (cov3 tS3_175 (by decide) (by decide))
theorem tS3_176 : chk B3 (2 ^ 14) (2147483647 * one 14) (131071 * one 14) (one 14) (idx 14) 50 144179201 = true := by kernel_rfl
theorem cS3_176 : cov b3 1 144998401 := cov_trans cS3_175 (cov3 tS3_176 (by decide) (by decide))
theorem tS3_177 : chk B3 (2 ^ 14) (2147483647 * one 14) (131071 * one 14) (one 14) (idx 14) 50 144998401 = true := by kernel_rfl
theorem cS3_177 : cov b3 1 145817601 := cov_trans cS3_176 (cov3 tS3_177 (by decide) (by decide))
theorem tS3_178 : chk B3 (2 ^ 14) (2147483647 * one 14) (131071 * one 14) (one 14) (idx 14) 50 145817601 = true := by kernel_rfl
theorem cS3_178 : cov b3 1 146636801 := cov_trans cS3_177 (cov3 tS3_178 (by decide) (by decide))
theorem tS3_179 : chk B3 (2 ^ 14) (2147483647 * one 14) (131071 * one 14) (one 14) (idx 14) 50 146636801 = true := by kernel_rfl
theorem cS3_179 : cov b3 1 147456001 := cov_trans cS3_178 (cov3 tS3_179 (by decide) (by decide))
theorem tS3_180 : chk B3 (2 ^ 14) (2147483647 * one 14) (131071 * one 14) (one 14) (idx 14) 50 147456001 = true := by kernel_rfl
theorem cS3_180 : cov b3 1 148275201 := cov_trans cS3_179 (cov3 tS3_180 (by decide) (by decide))
theorem tS3_181 : chk B3 (2 ^ 14) (2147483647 * one 14) (131071 * one 14) (one 14) (idx 14) 50 148275201 = true := by kernel_rfl
theorem cS3_181 : cov b3 1 149094401 := cov_trans cS3_180 (cov3 tS3_181 (by decide) (by decide))
theorem tS3_182 : chk B3 (2 ^ 14) (2147483647 * one 14) (131071 * one 14) (one 14) (idx 14) 50 149094401 = true := by kernel_rfl
theorem cS3_182 : cov b3 1 149913601 := cov_trans cS3_181 (cov3 tS3_182 (by decide) (by decide))
theorem tS3_183 : chk B3 (2 ^ 14) (2147483647 * one 14) (131071 * one 14) (one 14) (idx 14) 50 149913601 = true := by kernel_rfl
theorem cS3_183 : cov b3 1 150732801 := cov_trans cS3_182 (cov3 tS3_183 (by decide) (by decide))
theorem tS3_184 : chk B3 (2 ^ 14) (2147483647 * one 14) (131071 * one 14) (one 14) (idx 14) 50 150732801 = true := by kernel_rfl
theorem cS3_184 : cov b3 1 151552001 := cov_trans cS3_183 (cov3 tS3_184 (by decide) (by decide))
theorem tS3_185 : chk B3 (2 ^ 14) (2147483647 * one 14) (131071 * one 14) (one 14) (idx 14) 50 151552001 = true := by kernel_rfl
theorem cS3_185 : cov b3 1 152371201 := cov_trans cS3_184 (cov3 tS3_185 (by decide) (by decide))
theorem tS3_186 : chk B3 (2 ^ 14) (2147483647 * one 14) (131071 * one 14) (one 14) (idx 14) 50 152371201 = true := by kernel_rfl
theorem cS3_186 : cov b3 1 153190401 := cov_trans cS3_185 (cov3 tS3_186 (by decide) (by decide))
theorem tS3_187 : chk B3 (2 ^ 14) (2147483647 * one 14) (131071 * one 14) (one 14) (idx 14) 50 153190401 = true := by kernel_rfl
theorem cS3_187 : cov b3 1 154009601 := cov_trans cS3_186 (cov3 tS3_187 (by decide) (by decide))
theorem tS3_188 : chk B3 (2 ^ 14) (2147483647 * one 14) (131071 * one 14) (one 14) (idx 14) 50 154009601 = true := by kernel_rfl
theorem cS3_188 : cov b3 1 154828801 := cov_trans cS3_187 (cov3 tS3_188 (by decide) (by decide))
theorem tS3_189 : chk B3 (2 ^ 14) (2147483647 * one 14) (131071 * one 14) (one 14) (idx 14) 50 154828801 = true := by kernel_rfl
theorem cS3_189 : cov b3 1 155648001 := cov_trans cS3_188 (cov3 tS3_189 (by decide) (by decide))
theorem tS3_190 : chk B3 (2 ^ 14) (2147483647 * one 14) (131071 * one 14) (one 14) (idx 14) 50 155648001 = true := by kernel_rfl
theorem cS3_190 : cov b3 1 156467201 := cov_trans cS3_189 (cov3 tS3_190 (by decide) (by decide))
theorem tS3_191 : chk B3 (2 ^ 14) (2147483647 * one 14) (131071 * one 14) (one 14) (idx 14) 50 156467201 = true := by kernel_rfl
theorem cS3_191 : cov b3 1 157286401 := cov_trans cS3_190 (cov3 tS3_191 (by decide) (by decide))
theorem tS3_192 : chk B3 (2 ^ 14) (2147483647 * one 14) (131071 * one 14) (one 14) (idx 14) 50 157286401 = true := by kernel_rfl
theorem cS3_192 : cov b3 1 158105601 := cov_trans cS3_191 (cov3 tS3_192 (by decide) (by decide))
theorem tS3_193 : chk B3 (2 ^ 14) (2147483647 * one 14) (131071 * one 14) (one 14) (idx 14) 50 158105601 = true := by kernel_rfl
theorem cS3_193 : cov b3 1 158924801 := cov_trans cS3_192 (cov3 tS3_193 (by decide) (by decide))
theorem tS3_194 : chk B3 (2 ^ 14) (2147483647 * one 14) (131071 * one 14) (one 14) (idx 14) 50 158924801 = true := by kernel_rfl
theorem cS3_194 : cov b3 1 159744001 := cov_trans cS3_193 (cov3 tS3_194 (by decide) (by decide))
theorem tS3_195 : chk B3 (2 ^ 14) (2147483647 * one 14) (131071 * one 14) (one 14) (idx 14) 50 159744001 = true := by kernel_rfl
theorem cS3_195 : cov b3 1 160563201 := cov_trans cS3_194 (cov3 tS3_195 (by decide) (by decide))
theorem tS3_196 : chk B3 (2 ^ 14) (2147483647 * one 14) (131071 * one 14) (one 14) (idx 14) 50 160563201 = true := by kernel_rfl
theorem cS3_196 : cov b3 1 161382401 := cov_trans cS3_195 (cov3 tS3_196 (by decide) (by decide))
theorem tS3_197 : chk B3 (2 ^ 14) (2147483647 * one 14) (131071 * one 14) (one 14) (idx 14) 50 161382401 = true := by kernel_rfl
theorem cS3_197 : cov b3 1 162201601 := cov_trans cS3_196 (cov3 tS3_197 (by decide) (by decide))
theorem tS3_198 : chk B3 (2 ^ 14) (2147483647 * one 14) (131071 * one 14) (one 14) (idx 14) 50 162201601 = true := by kernel_rfl
theorem cS3_198 : cov b3 1 163020801 := cov_trans cS3_197 (cov3 tS3_198 (by decide) (by decide))
theorem tS3_199 : chk B3 (2 ^ 14) (2147483647 * one 14) (131071 * one 14) (one 14) (idx 14) 50 163020801 = true := by kernel_rfl
theorem cS3_199 : cov b3 1 163840001 := cov_trans cS3_198 (cov3 tS3_199 (by decide) (by decide))
theorem tS3_200 : chk B3 (2 ^ 14) (2147483647 * one 14) (131071 * one 14) (one 14) (idx 14) 50 163840001 = true := by kernel_rfl
theorem cS3_200 : cov b3 1 164659201 := cov_trans cS3_199 (cov3 tS3_200 (by decide) (by decide))
theorem tS3_201 : chk B3 (2 ^ 14) (2147483647 * one 14) (131071 * one 14) (one 14) (idx 14) 50 164659201 = true := by kernel_rfl
theorem cS3_201 : cov b3 1 165478401 := cov_trans cS3_200 (cov3 tS3_201 (by decide) (by decide))
theorem tS3_202 : chk B3 (2 ^ 14) (2147483647 * one 14) (131071 * one 14) (one 14) (idx 14) 50 165478401 = true := by kernel_rfl
theorem cS3_202 : cov b3 1 166297601 := cov_trans cS3_201 (cov3 tS3_202 (by decide) (by decide))
theorem tS3_203 : chk B3 (2 ^ 14) (2147483647 * one 14) (131071 * one 14) (one 14) (idx 14) 50 166297601 = true := by kernel_rfl
theorem cS3_203 : cov b3 1 167116801 := cov_trans cS3_202 (cov3 tS3_203 (by decide) (by decide))
theorem tS3_204 : chk B3 (2 ^ 14) (2147483647 * one 14) (131071 * one 14) (one 14) (idx 14) 50 167116801 = true := by kernel_rfl
theorem cS3_204 : cov b3 1 167936001 := cov_trans cS3_203 (cov3 tS3_204 (by decide) (by decide))
theorem tS3_205 : chk B3 (2 ^ 14) (2147483647 * one 14) (131071 * one 14) (one 14) (idx 14) 50 167936001 = true := by kernel_rfl
theorem cS3_205 : cov b3 1 168755201 := cov_trans cS3_204 (cov3 tS3_205 (by decide) (by decide))
theorem tS3_206 : chk B3 (2 ^ 14) (2147483647 * one 14) (131071 * one 14) (one 14) (idx 14) 50 168755201 = true := by kernel_rfl
theorem cS3_206 : cov b3 1 169574401 := cov_trans cS3_205 (cov3 tS3_206 (by decide) (by decide))
theorem tS3_207 : chk B3 (2 ^ 14) (2147483647 * one 14) (131071 * one 14) (one 14) (idx 14) 50 169574401 = true := by kernel_rfl
theorem cS3_207 : cov b3 1 170393601 := cov_trans cS3_206 (cov3 tS3_207 (by decide) (by decide))
theorem tS3_208 : chk B3 (2 ^ 14) (2147483647 * one 14) (131071 * one 14) (one 14) (idx 14) 50 170393601 = true := by kernel_rfl
theorem cS3_208 : cov b3 1 171212801 := cov_trans cS3_207 (cov3 tS3_208 (by decide) (by decide))
theorem tS3_209 : chk B3 (2 ^ 14) (2147483647 * one 14) (131071 * one 14) (one 14) (idx 14) 50 171212801 = true := by kernel_rfl
theorem cS3_209 : cov b3 1 172032001 := cov_trans cS3_208 (cov3 tS3_209 (by decide) (by decide))
theorem tS3_210 : chk B3 (2 ^ 14) (2147483647 * one 14) (131071 * one 14) (one 14) (idx 14) 50 172032001 = true := by kernel_rfl
theorem cS3_210 : cov b3 1 172851201 := cov_trans cS3_209 (cov3 tS3_210 (by decide) (by decide))
theorem tS3_211 : chk B3 (2 ^ 14) (2147483647 * one 14) (131071 * one 14) (one 14) (idx 14) 50 172851201 = true := by kernel_rfl
theorem cS3_211 : cov b3 1 173670401 := cov_trans cS3_210 (cov3 tS3_211 (by decide) (by decide))
theorem tS3_212 : chk B3 (2 ^ 14) (2147483647 * one 14) (131071 * one 14) (one 14) (idx 14) 50 173670401 = true := by kernel_rfl
theorem cS3_212 : cov b3 1 174489601 := cov_trans cS3_211 (cov3 tS3_212 (by decide) (by decide))
theorem tS3_213 : chk B3 (2 ^ 14) (2147483647 * one 14) (131071 * one 14) (one 14) (idx 14) 50 174489601 = true := by kernel_rfl
theorem cS3_213 : cov b3 1 175308801 := cov_trans cS3_212 (cov3 tS3_213 (by decide) (by decide))
theorem tS3_214 : chk B3 (2 ^ 14) (2147483647 * one 14) (131071 * one 14) (one 14) (idx 14) 50 175308801 = true := by kernel_rfl
theorem cS3_214 : cov b3 1 176128001 := cov_trans cS3_213 (cov3 tS3_214 (by decide) (by decide))
theorem tS3_215 : chk B3 (2 ^ 14) (2147483647 * one 14) (131071 * one 14) (one 14) (idx 14) 50 176128001 = true := by kernel_rfl
theorem cS3_215 : cov b3 1 176947201 := cov_trans cS3_214 (cov3 tS3_215 (by decide) (by decide))
theorem tS3_216 : chk B3 (2 ^ 14) (2147483647 * one 14) (131071 * one 14) (one 14) (idx 14) 50 176947201 = true := by kernel_rfl
theorem cS3_216 : cov b3 1 177766401 := cov_trans cS3_215 (cov3 tS3_216 (by decide) (by decide))
theorem tS3_217 : chk B3 (2 ^ 14) (2147483647 * one 14) (131071 * one 14) (one 14) (idx 14) 50 177766401 = true := by kernel_rfl
theorem cS3_217 : cov b3 1 178585601 := cov_trans cS3_216 (cov3 tS3_217 (by decide) (by decide))
theorem tS3_218 : chk B3 (2 ^ 14) (2147483647 * one 14) (131071 * one 14) (one 14) (idx 14) 50 178585601 = true := by kernel_rfl
theorem cS3_218 : cov b3 1 179404801 := cov_trans cS3_217 (cov3 tS3_218 (by decide) (by decide))
theorem tS3_219 : chk B3 (2 ^ 14) (2147483647 * one 14) (131071 * one 14) (one 14) (idx 14) 50 179404801 = true := by kernel_rfl
theorem cS3_219 : cov b3 1 180224001 := cov_trans cS3_218 (cov3 tS3_219 (by decide) (by decide))
theorem tS3_220 : chk B3 (2 ^ 14) (2147483647 * one 14) (131071 * one 14) (one 14) (idx 14) 50 180224001 = true := by kernel_rfl
theorem cS3_220 : cov b3 1 181043201 := cov_trans cS3_219 (cov3 tS3_220 (by decide) (by decide))
theorem tS3_221 : chk B3 (2 ^ 14) (2147483647 * one 14) (131071 * one 14) (one 14) (idx 14) 50 181043201 = true := by kernel_rfl
theorem cS3_221 : cov b3 1 181862401 := cov_trans cS3_220 (cov3 tS3_221 (by decide) (by decide))
theorem tS3_222 : chk B3 (2 ^ 14) (2147483647 * one 14) (131071 * one 14) (one 14) (idx 14) 50 181862401 = true := by kernel_rfl
theorem cS3_222 : cov b3 1 182681601 := cov_trans cS3_221 (cov3 tS3_222 (by decide) (by decide))
theorem tS3_223 : chk B3 (2 ^ 14) (2147483647 * one 14) (131071 * one 14) (one 14) (idx 14) 50 182681601 = true := by kernel_rfl
theorem cS3_223 : cov b3 1 183500801 := cov_trans cS3_222 (cov3 tS3_223 (by decide) (by decide))
theorem tS3_224 : chk B3 (2 ^ 14) (2147483647 * one 14) (131071 * one 14) (one 14) (idx 14) 50 183500801 = true := by kernel_rfl
theorem cS3_224 : cov b3 1 184320001 := cov_trans cS3_223 (cov3 tS3_224 (by decide) (by decide))
theorem tS3_225 : chk B3 (2 ^ 14) (2147483647 * one 14) (131071 * one 14) (one 14) (idx 14) 50 184320001 = true := by kernel_rfl
theorem cS3_225 : cov b3 1 185139201 := cov_trans cS3_224 (cov3 tS3_225 (by decide) (by decide))
theorem tS3_226 : chk B3 (2 ^ 14) (2147483647 * one 14) (131071 * one 14) (one 14) (idx 14) 50 185139201 = true := by kernel_rfl
theorem cS3_226 : cov b3 1 185958401 := cov_trans cS3_225 (cov3 tS3_226 (by decide) (by decide))
theorem tS3_227 : chk B3 (2 ^ 14) (2147483647 * one 14) (131071 * one 14) (one 14) (idx 14) 50 185958401 = true := by kernel_rfl
theorem cS3_227 : cov b3 1 186777601 := cov_trans cS3_226 (cov3 tS3_227 (by decide) (by decide))
theorem tS3_228 : chk B3 (2 ^ 14) (2147483647 * one 14) (131071 * one 14) (one 14) (idx 14) 50 186777601 = true := by kernel_rfl
theorem cS3_228 : cov b3 1 187596801 := cov_trans cS3_227 (cov3 tS3_228 (by decide) (by decide))
theorem tS3_229 : chk B3 (2 ^ 14) (2147483647 * one 14) (131071 * one 14) (one 14) (idx 14) 50 187596801 = true := by kernel_rfl
theorem cS3_229 : cov b3 1 188416001 := cov_trans cS3_228 (cov3 tS3_229 (by decide) (by decide))
theorem tS3_230 : chk B3 (2 ^ 14) (2147483647 * one 14) (131071 * one 14) (one 14) (idx 14) 50 188416001 = true := by kernel_rfl
theorem cS3_230 : cov b3 1 189235201 := cov_trans cS3_229 (cov3 tS3_230 (by decide) (by decide))
theorem tS3_231 : chk B3 (2 ^ 14) (2147483647 * one 14) (131071 * one 14) (one 14) (idx 14) 50 189235201 = true := by kernel_rfl
theorem cS3_231 : cov b3 1 190054401 := cov_trans cS3_230 (cov3 tS3_231 (by decide) (by decide))
theorem tS3_232 : chk B3 (2 ^ 14) (2147483647 * one 14) (131071 * one 14) (one 14) (idx 14) 50 190054401 = true := by kernel_rfl
theorem cS3_232 : cov b3 1 190873601 := cov_trans cS3_231 (cov3 tS3_232 (by decide) (by decide))
theorem tS3_233 : chk B3 (2 ^ 14) (2147483647 * one 14) (131071 * one 14) (one 14) (idx 14) 50 190873601 = true := by kernel_rfl
theorem cS3_233 : cov b3 1 191692801 := cov_trans cS3_232 (cov3 tS3_233 (by decide) (by decide))
theorem tS3_234 : chk B3 (2 ^ 14) (2147483647 * one 14) (131071 * one 14) (one 14) (idx 14) 50 191692801 = true := by kernel_rfl
theorem cS3_234 : cov b3 1 192512001 := cov_trans cS3_233 (cov3 tS3_234 (by decide) (by decide))
theorem tS3_235 : chk B3 (2 ^ 14) (2147483647 * one 14) (131071 * one 14) (one 14) (idx 14) 50 192512001 = true := by kernel_rfl
theorem cS3_235 : cov b3 1 193331201 := cov_trans cS3_234 (cov3 tS3_235 (by decide) (by decide))
theorem tS3_236 : chk B3 (2 ^ 14) (2147483647 * one 14) (131071 * one 14) (one 14) (idx 14) 50 193331201 = true := by kernel_rfl
theorem cS3_236 : cov b3 1 194150401 := cov_trans cS3_235 (cov3 tS3_236 (by decide) (by decide))
theorem tS3_237 : chk B3 (2 ^ 14) (2147483647 * one 14) (131071 * one 14) (one 14) (idx 14) 50 194150401 = true := by kernel_rfl
theorem cS3_237 : cov b3 1 194969601 := cov_trans cS3_236 (cov3 tS3_237 (by decide) (by decide))
theorem tS3_238 : chk B3 (2 ^ 14) (2147483647 * one 14) (131071 * one 14) (one 14) (idx 14) 50 194969601 = true := by kernel_rfl
theorem cS3_238 : cov b3 1 195788801 := cov_trans cS3_237 (cov3 tS3_238 (by decide) (by decide))
end Simd
end Go.Proofs.Ytlnagcdnnaffgaa
