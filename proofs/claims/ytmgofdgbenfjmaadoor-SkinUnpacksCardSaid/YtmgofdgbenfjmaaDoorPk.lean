/- The program's Pack walked. Conditions: each string's length is an int; the table of powers of ten is laid. -/
import Derived.Test.YtmgofdgbenfjmaaDoorVs
import Derived.Test.YtmgofdgbenfjmaaDoorPkQ
import Derived.Test.YtmgofdgbenfjmaaDoorGd
import Derived.Deep.CutBlock
namespace Go.Proofs.YtmgofdgbenfjmaaDoor
open Go.RowKit

/-- what Pack answers -/
def RetPk (w : World) (l : List ByteArray) (e : Ending) (w' : World) : Prop :=
  Below w.heap.size w w' ∧ ((¬ SkOk l ∧ e = .returned (.tuple #[.string ⟨#[]⟩, .int .i64 2])) ∨ (SkOk l ∧ e = .returned (.tuple #[.string (BS (packL l)), .int .i64 0])))
/-- a row packed -/
def rleB (r : ByteArray) : ByteArray := BS (rle r.data.toList)
theorem rleB_size (r : ByteArray) : (rleB r).size ≤ r.size := by unfold rleB; rw [BS_size, ← len_size]; exact rle_len _
theorem map_rleB (l : List ByteArray) : (l.map rleB).map (·.data.toList) = rowsP l := by
  unfold rowsP rleB
  rw [List.map_map]
  congr 1
theorem enc_small {n : Nat} (h : n < 128) : Utf8.encode (n : Int) = BS [UInt8.ofNat n] := by
  have hv : Utf8.valid (n : Int) = true := by
    unfold Utf8.valid
    simp
    try omega
  unfold Utf8.encode
  simp only [hv, if_true, Int.toNat_natCast, BS]
  rw [if_pos h]
set_option maxRecDepth 100000 in
set_option maxHeartbeats 4000000 in
theorem pack_any (A : Option Addr) (cap : Nat) (l : List ByteArray) (w : World) (hc : l.length ≤ cap) (hcm : cap ≤ 9223372036854775807) (h : TSl w A l) (hz : TSz l) (ht : P10 w) :
    Calls Tryd.prog 26 #[.slice A l.length cap] w (RetPk w l) := by
  have HV := Lib.hid (valid_any A cap l w hc hcm h hz)
  by_cases hok : SkOk l
  · rw [decide_eq_true hok] at HV
    have HOK := Lib.hid hok
    rcases h with h0 | ⟨b, off, rfl, hblt, hcl⟩
    · have h1 := hok.1; rw [h0] at h1; simp at h1
    have hn48 := hok.2.2.2.1
    have hh48 := hok.2.1
    have HT := Lib.hid (fun W (hW : Below w.heap.size w W) => ht.ext hW)
    have HCL := Lib.hid (show ∀ W, Below w.heap.size w W → b < W.heap.size ∧ ∀ j (hj : j < l.length), W.cell? ⟨b, off + j, none⟩ = some (.string l[j]) from fun W hW => ⟨Nat.lt_of_lt_of_le hblt hW.size, fun j hj => (hW.cell (p := ⟨b, off + j, none⟩) hblt).trans (hcl j hj)⟩)
    have HI := Lib.hid (fun (n : Nat) W (hn : n ≤ 100) (hW : Below w.heap.size w W) => itoa_any n W (by omega) (HT.out W hW))
    have HROW := Lib.hid (fun k (hk : k < l.length) => hok.row hk)
    obtain ⟨rs, hrs⟩ : ∃ rs, rs = l.map rleB := ⟨_, rfl⟩
    have HRS := Lib.hid hrs
    have hrl : rs.length = l.length := by rw [hrs]; simp
    have HRL := Lib.hid hrl
    have HRA := Lib.hid (show ∀ k (hk : k < l.length), rs.take (k + 1) = rs.take k ++ [rleB l[k]] from fun k hk => by
      rw [List.take_succ_eq_append_getElem (by omega)]
      simp [hrs])
    have HJ := Lib.hid (fun (A : Option Addr) (c : Nat) W (hA : TSl W A rs) (hcap : rs.length ≤ c) => join_any A c rs W hA (by omega) hcap (by
      rw [hrs, map_rleB]
      have := pack_len hok
      unfold packL at this
      omega))
    have HJL := Lib.hid (show BS (Lib.join (rs.map (·.data.toList)) [47]) = BS (packL l) from by rw [hrs, map_rleB]; rfl)
    have HVN := Lib.hid (Vs.nil w.heap.size)
    clear hcl hrs hrl hok hz ht
    go_enter Tryd.func26, Tryd.ntmps26
    go_wp2_with (go_at_call 42; refine (HV.out).mono ?_; rintro e w1 ⟨rfl, hx1⟩; have HX1 := Lib.hid hx1; clear hx1)
    clear HV
    go_loopg [15, 4] l.length (fun gg z v wr => ∃ k : Nat, z = .int .i64 k ∧ k ≤ l.length ∧ gg = l.length - k ∧ Vs w.heap.size wr v (rs.take k) ∧ Below w.heap.size w wr)
    case atStart => exact ⟨0, rfl, by omega, by omega, by rw [List.take_zero]; exact HVN.out _, HX1.out⟩
    case round =>
      obtain ⟨k, rfl, hk, hgg, hv, hb⟩ := hrel
      have HG1 := Lib.hid hgg
      have HV1 := Lib.hid hv
      have HB1 := Lib.hid hb
      clear hgg hv hb HX1
      by_cases hlt : k < l.length
      · have hrow := HROW.out k hlt
        obtain ⟨cb, cc⟩ := HCL.out _ HB1.out
        have ck := cc k hlt
        have HTK := Lib.hid (HRA.out k hlt)
        obtain ⟨r, hr⟩ : ∃ r, r = l[k] := ⟨_, rfl⟩
        rw [← hr] at hrow ck HTK
        have HRW := Lib.hid (byte_range hrow)
        have hrn : r.size ≤ 48 := by rw [hrow.1]; exact hn48
        have HPS := Lib.hid (PkI.start r)
        have HLT := Lib.hid hlt
        have hk1 : (k : Int) < (l.length : Int) := by omega
        have hk0 : (0 : Int) ≤ (k : Int) := by omega
        clear cc hr hrow
        go_wp2_with (fail)
        clear ck cb
        go_loopg [8, 7] r.size (fun gg z v wr => ∃ (i : Nat) (t : ByteArray), z = .int .i64 i ∧ v = .string t ∧ i ≤ r.size ∧ gg = r.size - i ∧ t.size ≤ i ∧ PkI r t i ∧ Vs w.heap.size wr u4 (rs.take k) ∧ Below w.heap.size w wr)
        case atStart => exact ⟨0, ⟨#[]⟩, rfl, rfl, by omega, by omega, Nat.le_refl _, HPS.out, HV1.out, HB1.out⟩
        case round =>
          obtain ⟨i, t, rfl, rfl, hi, hgg, hts, hp, hv, hb⟩ := hrel
          have HG2 := Lib.hid hgg
          have HP2 := Lib.hid hp
          have HV2 := Lib.hid hv
          have HB2 := Lib.hid hb
          clear hgg hp hv hb HV1 HB1
          by_cases hin : i < r.size
          · have hi4 : i < r.data.size := hin
            obtain ⟨m, hm⟩ : ∃ m, m = runN r i := ⟨_, rfl⟩
            have HM := Lib.hid hm
            have hm1 : 1 ≤ m := by rw [hm]; unfold runN; omega
            have hmn := runN_le hi4
            rw [← hm] at hmn
            clear hm
            obtain ⟨xn, hxi⟩ : ∃ xn, (r[i]'hi4).toNat = xn := ⟨_, rfl⟩
            go_upto_block 4 with fail
            go_cut [9] from 19 to 59 (fun z wx => z = .int .i64 m ∧ Vs w.heap.size wx u4 (rs.take k) ∧ Below w.heap.size w wx)
            case first =>
              go_wp2_with (fail)
              go_loopg [9] m (fun gg z wr => ∃ q : Nat, z = .int .i64 q ∧ 1 ≤ q ∧ q ≤ m ∧ gg = m + 1 - q ∧ Vs w.heap.size wr u4 (rs.take k) ∧ Below w.heap.size w wr)
              case atStart => exact ⟨1, rfl, by omega, by omega, by omega, HV2.out, HB2.out⟩
              case round =>
                obtain ⟨q, rfl, hq1, hqm, hgg, hv, hb⟩ := hrel
                have HG3 := Lib.hid hgg
                have HV3 := Lib.hid hv
                have HB3 := Lib.hid hb
                clear hgg hv hb HV2 HB2
                by_cases hqlt : q < m
                · have hqm2 := hqlt
                  rw [HM.out] at hqm2
                  obtain ⟨hj, hje⟩ := runN_in hi4 hq1 hqm2
                  clear hqm2
                  obtain ⟨j, hjq⟩ : ∃ j, j = i + q := ⟨_, rfl⟩
                  have hjI : (i : Int) + (q : Int) = (j : Int) := by omega
                  have hj4 : j < r.data.size := by rw [hjq]; exact hj
                  have hjn : (j : Int) < (r.size : Int) := by have : r.size = r.data.size := rfl; omega
                  have hxj : (r[j]'hj4).toNat = xn := by
                    have e : (r[j]'hj4) = r.data[i + q]'hj := by show r.data[j] = _; congr 1
                    rw [e, hje]; exact hxi
                  clear hje hjq hj
                  go_wp2_with (fail)
                  go_quiet (fail)
                  go_wp2_with (fail)
                  go_roundg (m + 1 - (q + 1))
                  case measure => have := HG3.out; omega
                  case rel => exact ⟨q + 1, by go_num, by omega, by omega, rfl, HV3.out.ext (ext_drewN _ _), bext HB3.out (ext_drewN _ _) HB3.out.size⟩
                · obtain rfl : q = m := by omega
                  have HOUT := Lib.hid (fun (h2 : i + runN r i < r.data.size) => runN_out hi4 h2)
                  clear hqlt
                  obtain ⟨j, hjq⟩ : ∃ j, j = i + q := ⟨_, rfl⟩
                  have hjI : (i : Int) + (q : Int) = (j : Int) := by omega
                  by_cases hjn : j < r.data.size
                  · have hjI2 : (j : Int) < (r.size : Int) := by have : r.size = r.data.size := rfl; omega
                    have hne : ((r[j]'hjn).toNat : Int) ≠ (xn : Int) := fun e => by
                      have e2 : i + runN r i = j := by rw [← HM.out]; exact hjq.symm
                      refine HOUT.out (by omega) ?_
                      have e3 : r.data[i + runN r i]'(by omega) = (r[j]'hjn) := by show _ = r.data[j]; congr 1
                      rw [e3]
                      apply UInt8.toNat_inj.1
                      have e4 : (r.data[i]'hi4).toNat = xn := hxi
                      rw [e4]
                      omega
                    obtain ⟨yn, hxj⟩ : ∃ yn, (r[j]'hjn).toNat = yn := ⟨_, rfl⟩
                    rw [hxj] at hne
                    have hnb : ((yn : Int) == (xn : Int)) = false := by simpa using hne
                    clear hjq hne HOUT
                    go_wp2_with (fail)
                    go_quiet (fail)
                    go_wp2_with (fail)
                    go_meet
                    case rel => exact ⟨rfl, HV3.out.ext (ext_drewN _ _), bext HB3.out (ext_drewN _ _) HB3.out.size⟩
                  · have hjI2 : ¬ (j : Int) < (r.size : Int) := by have : r.size = r.data.size := rfl; omega
                    have hjd : decide (j < r.size) = false := decide_eq_false (by omega)
                    have hjw : IntKind.i64.wrap (j : Int) = (j : Int) := IntWalk.i64_in _ ⟨by omega, by omega⟩
                    clear hjq HOUT hjn
                    go_wp2_with (fail)
                    go_quiet (fail)
                    go_wp2_with (fail)
                    go_meet
                    case rel => exact ⟨rfl, HV3.out.ext (ext_drewN _ _), bext HB3.out (ext_drewN _ _) HB3.out.size⟩
            case rest =>
              obtain ⟨rfl, hv, hb⟩ := hcut
              have HV3 := Lib.hid hv
              have HB3 := Lib.hid hb
              clear hv hb HV2 HB2
              rename_i hKc
              refine hKc _ _ ?_
              have hir : m ≤ 48 := by omega
              have HPN := Lib.hid (HP2.out.step hi4)
              have HX48 := Lib.hid (show 48 ≤ xn ∧ xn ≤ 57 from by
                have h1 := HRW.out i
                have h2 : byteAt r i = xn := (dif_pos hin).trans hxi
                rw [h2] at h1; exact h1)
              obtain ⟨sc, hsc⟩ : ∃ sc, Utf8.encode ((97 + (xn : Int) - 48) % 256) = sc := ⟨_, rfl⟩
              have hsx : sc = BS [r.data[i]'hi4 + 49] := by
                have h2 := HX48.out
                rw [← hsc, show (97 + (xn : Int) - 48) % 256 = ((xn + 49 : Nat) : Int) from by omega, enc_small (by omega)]
                congr 2
                apply UInt8.toNat_inj.1
                have e4 : (r.data[i]'hi4).toNat = xn := hxi
                rw [UInt8.toNat_ofNat', UInt8.toNat_add, e4]
                rfl
              have hs1 : sc.size ≤ 1 := by rw [hsx, BS_size]; exact Nat.le_refl _
              have HSX := Lib.hid hsx
              clear hsx
              by_cases h1m : 1 < m
              · have h1mI : (1 : Int) < (m : Int) := by omega
                have HIM := Lib.hid (HI.out m _ (by omega) HB3.out)
                obtain ⟨sd, hsd⟩ : ∃ sd, sd = BS (Lib.decDigits m) := ⟨_, rfl⟩
                have hsz : sd.size + 1 ≤ m := by rw [hsd, BS_size]; exact pd_len2 m h1m
                have hz1 : (t ++ sd).size ≤ 96 := by rw [ByteArray.size_append]; omega
                rw [← hsd] at HIM
                have hz2 : (t ++ sd ++ sc).size ≤ 97 := by rw [ByteArray.size_append]; omega
                have HTN := Lib.hid (show t ++ sd ++ sc = BS (t.data.toList ++ runS m (r.data[i]'hi4)) from by
                  rw [HSX.out, hsd]
                  conv => lhs; rw [← BS_self t]
                  rw [BS_app, BS_app]
                  unfold runS
                  rw [if_pos h1m, List.append_assoc])
                have hz3 : (t ++ sd ++ sc).size ≤ i + m := by rw [ByteArray.size_append, ByteArray.size_append]; omega
                have HZ3 := Lib.hid hz3
                clear hsd hz3
                go_wp2_with (go_at_call 63; refine (HIM.out).mono ?_; rintro e w5 ⟨rfl, hx5⟩; have HV5 := Lib.hid (HV3.out.ext hx5); have HB5 := Lib.hid (bext HB3.out hx5 HB3.out.size); clear hx5)
                go_roundg (r.size - (i + m))
                case measure => have := HG2.out; omega
                case rel => exact ⟨i + m, _, by go_num, rfl, by omega, rfl, HZ3.out, by rw [HTN.out, HM.out]; exact HPN.out, HV5.out, HB5.out⟩
              · have h1mI : ¬ (1 : Int) < (m : Int) := by omega
                have hz2 : (t ++ sc).size ≤ 97 := by rw [ByteArray.size_append]; omega
                have HTN := Lib.hid (show t ++ sc = BS (t.data.toList ++ runS m (r.data[i]'hi4)) from by
                  rw [HSX.out]
                  conv => lhs; rw [← BS_self t]
                  rw [BS_app]
                  unfold runS
                  rw [if_neg h1m, List.nil_append])
                have HZ3 := Lib.hid (show (t ++ sc).size ≤ i + m from by rw [ByteArray.size_append]; omega)
                go_wp2_with (fail)
                go_roundg (r.size - (i + m))
                case measure => have := HG2.out; omega
                case rel => exact ⟨i + m, _, by go_num, rfl, by omega, rfl, HZ3.out, by rw [HTN.out, HM.out]; exact HPN.out, HV3.out, HB3.out⟩
          · obtain rfl : i = r.size := by omega
            have HTT := Lib.hid (show t = rleB r from HP2.out.stop)
            have hkl : (rs.take k).length ≤ 1000000 := by have := HRL.out; rw [List.length_take]; omega
            clear hin
            go_wp2_with (at_builtin; refine wpList_pushS _ rfl _ _ rfl w.heap.size HV2.out (by rfl) t (by rfl) rfl hkl HB2.out.size ?_; intro v5 w5 hv5 hb5 hk5 hk6; have HV5 := Lib.hid hv5; have HB5 := Lib.hid (HB2.out.trans hb5); clear hv5 hb5 hk5 hk6)
            go_roundg (l.length - (k + 1))
            case measure => have := HG1.out; have := HLT.out; omega
            case rel => exact ⟨k + 1, by go_num, by omega, rfl, by rw [HTK.out, ← HTT.out]; exact HV5.out, HB5.out⟩
      · obtain rfl : k = l.length := by omega
        have hv := HV1.out
        rw [← HRL.out, List.take_length] at hv
        obtain ⟨A2, c2, rfl, hc2, hm2, hs2⟩ := hv.tsl
        have HJ1 := Lib.hid (HJ.out A2 c2 wr hs2 hc2)
        rw [HJL.out] at HJ1
        obtain ⟨sp, hsp⟩ : ∃ sp, sp = BS (packL l) := ⟨_, rfl⟩
        rw [← hsp] at HJ1
        have HSP := Lib.hid hsp
        clear hsp hs2 hv hlt
        go_wp2_with (go_at_call 64; refine (HJ1.out).mono ?_; rintro e w6 ⟨rfl, hx6⟩)
        refine bodyPost_ret (v := .tuple #[.string sp, .int .i64 0]) (by simp [results, Tryd.results26, go_sem]) rfl ?_
        exact ⟨bext HB1.out hx6 HB1.out.size, .inr ⟨HOK.out, by rw [HSP.out]⟩⟩
  · rw [decide_eq_false hok] at HV
    have HOK := Lib.hid hok
    clear hok h hz ht
    go_enter Tryd.func26, Tryd.ntmps26
    go_wp2_with (go_at_call 42; refine (HV.out).mono ?_; rintro e w1 ⟨rfl, hx1⟩)
    refine bodyPost_ret (v := .tuple #[.string ⟨#[]⟩, .int .i64 2]) (by simp [results, Tryd.results26, go_sem]) rfl ?_
    exact ⟨hx1, .inl ⟨HOK.out, rfl⟩⟩
end Go.Proofs.YtmgofdgbenfjmaaDoor
