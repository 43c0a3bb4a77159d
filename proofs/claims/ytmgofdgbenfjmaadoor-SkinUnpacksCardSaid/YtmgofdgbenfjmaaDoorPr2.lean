/- The reference's Pack walked. Conditions: each string's length is an int; the table of powers of ten is laid. -/
import Derived.Test.YtmgofdgbenfjmaaDoorPk
import Derived.Test.YtmgofdgbenfjmaaDoorRg
namespace Go.Proofs.YtmgofdgbenfjmaaDoor
open Go.RowKit

theorem extract_BS (l : List UInt8) (a b : Nat) : (BS l).extract a b = BS ((l.drop a).take (b - a)) := by
  apply ByteArray.ext
  apply Array.ext'
  simp [BS]
/-- the rest of a row: its first byte, what is left without its first run -/
theorem sl_head {r : ByteArray} {i : Nat} (hi : i < r.data.size) :
    (BS (r.data.toList.drop i)).extract 0 1 = ⟨#[r.data[i]]⟩ ∧ (∀ h : 0 < (BS (r.data.toList.drop i)).data.size, (BS (r.data.toList.drop i)).data[0] = r.data[i]) ∧
    BS (Lib.trimLeftB (BS (r.data.toList.drop i)).data.toList r.data[i]) = BS (r.data.toList.drop (i + runN r i)) ∧
    (BS (r.data.toList.drop i)).extract (runN r i) (BS (r.data.toList.drop i)).size = BS (r.data.toList.drop (i + runN r i)) := by
  have hl : i < r.data.toList.length := by rw [Array.length_toList]; exact hi
  have hd : r.data.toList.drop i = r.data[i] :: r.data.toList.drop (i + 1) := by rw [List.drop_eq_getElem_cons hl]; simp
  have hr : r.data.toList.drop (i + runN r i) = (r.data.toList.drop (i + 1)).drop (runL r.data[i] (r.data.toList.drop (i + 1))) := by
    rw [List.drop_drop]
    unfold runN
    rw [getD_at hi]
    congr 1
    omega
  refine ⟨?_, ?_, ?_, ?_⟩
  · rw [hd]; apply ByteArray.ext; apply Array.ext'; simp [BS]
  · intro h; simp [BS, hd]
  · rw [BS_list, hr, hd]
    unfold Lib.trimLeftB
    rw [List.dropWhile_cons, if_pos (by simp), runL_trim]
  · rw [extract_BS, BS_size, List.take_of_length_le (by rw [List.length_drop (i := runN r i)]; exact Nat.le_refl _), List.drop_drop]
set_option maxRecDepth 100000 in
set_option maxHeartbeats 4000000 in
theorem rpack_any (A : Option Addr) (cap : Nat) (l : List ByteArray) (w : World) (hc : l.length ≤ cap) (hcm : cap ≤ 9223372036854775807) (h : TSl w A l) (hz : TSz l) (ht : P10 w) :
    Calls Tryd.prog 27 #[.slice A l.length cap] w (RetPk w l) := by
  have HV := Lib.hid (rvalid_any A cap l w hc hcm h hz)
  by_cases hok : SkOk l
  · rw [decide_eq_true hok] at HV
    have HOK := Lib.hid hok
    rcases h with h0 | ⟨b, off, rfl, hblt, hcl⟩
    · have h1 := hok.1; rw [h0] at h1; simp at h1
    have hn48 := hok.2.2.2.1
    have hh48 := hok.2.1
    have HT := Lib.hid (fun W (hW : Below w.heap.size w W) => ht.ext hW)
    have HCL := Lib.hid (show ∀ W, Below w.heap.size w W → b < W.heap.size ∧ ∀ j (hj : j < l.length), W.cell? ⟨b, off + j, none⟩ = some (.string l[j]) from fun W hW => ⟨Nat.lt_of_lt_of_le hblt hW.size, fun j hj => (hW.cell (p := ⟨b, off + j, none⟩) hblt).trans (hcl j hj)⟩)
    have HI := Lib.hid (fun (n : Nat) W (hn : n ≤ 100) (hW : Below w.heap.size w W) => itoa_any n W (by omega) (HT.out W hW))
    have HROW := Lib.hid (fun k (hk : k < l.length) => hok.row hk)
    obtain ⟨rs, hrs⟩ : ∃ rs, rs = l.map rleB := ⟨_, rfl⟩
    have HRS := Lib.hid hrs
    have hrl : rs.length = l.length := by rw [hrs]; simp
    have HRL := Lib.hid hrl
    have HRA := Lib.hid (show ∀ k (hk : k < l.length), rs.take (k + 1) = rs.take k ++ [rleB l[k]] from fun k hk => by
      rw [List.take_succ_eq_append_getElem (by omega)]
      simp [hrs])
    have HJ := Lib.hid (fun (A : Option Addr) (c : Nat) W (hA : TSl W A rs) (hcap : rs.length ≤ c) => join_any A c rs W hA (by omega) hcap (by
      rw [hrs, map_rleB]
      have := pack_len hok
      unfold packL at this
      omega))
    have HJL := Lib.hid (show BS (Lib.join (rs.map (·.data.toList)) [47]) = BS (packL l) from by rw [hrs, map_rleB]; rfl)
    have HVN := Lib.hid (Vs.nil w.heap.size)
    clear hcl hrs hrl hok hz ht
    go_enter Tryd.func27, Tryd.ntmps27
    go_wp2_with (go_at_call 38; refine (HV.out).mono ?_; rintro e w1 ⟨rfl, hx1⟩; have HX1 := Lib.hid hx1; clear hx1)
    clear HV
    go_loopg [14, 4] l.length (fun gg z v wr => ∃ k : Nat, z = .int .i64 k ∧ k ≤ l.length ∧ gg = l.length - k ∧ Vs w.heap.size wr v (rs.take k) ∧ Below w.heap.size w wr)
    case atStart => exact ⟨0, rfl, by omega, by omega, by rw [List.take_zero]; exact HVN.out _, HX1.out⟩
    case round =>
      obtain ⟨k, rfl, hk, hgg, hv, hb⟩ := hrel
      have HG1 := Lib.hid hgg
      have HV1 := Lib.hid hv
      have HB1 := Lib.hid hb
      clear hgg hv hb HX1
      by_cases hlt : k < l.length
      · have hrow := HROW.out k hlt
        obtain ⟨cb, cc⟩ := HCL.out _ HB1.out
        have ck := cc k hlt
        have HTK := Lib.hid (HRA.out k hlt)
        obtain ⟨r, hr⟩ : ∃ r, r = l[k] := ⟨_, rfl⟩
        rw [← hr] at hrow ck HTK
        have HRW := Lib.hid (byte_range hrow)
        have hrn : r.size ≤ 48 := by rw [hrow.1]; exact hn48
        have HPS := Lib.hid (PkI.start r)
        have HLT := Lib.hid hlt
        have hk1 : (k : Int) < (l.length : Int) := by omega
        have hk0 : (0 : Int) ≤ (k : Int) := by omega
        clear cc hr hrow
        go_wp2_with (fail)
        clear ck cb
        go_loopg [6, 7] r.size (fun gg z v wr => ∃ (i : Nat) (s t : ByteArray), z = .string s ∧ v = .string t ∧ i ≤ r.size ∧ gg = r.size - i ∧ t.size ≤ i ∧ PkI r t i ∧ s = BS (r.data.toList.drop i) ∧ Vs w.heap.size wr u4 (rs.take k) ∧ Below w.heap.size w wr)
        case atStart => exact ⟨0, r, ⟨#[]⟩, rfl, rfl, by omega, by omega, Nat.le_refl _, HPS.out, by rw [List.drop_zero, BS_self], HV1.out, HB1.out⟩
        case round =>
          obtain ⟨i, s, t, rfl, rfl, hi, hgg, hts, hp, hs, hv, hb⟩ := hrel
          have HG2 := Lib.hid hgg
          have HP2 := Lib.hid hp
          have HV2 := Lib.hid hv
          have HB2 := Lib.hid hb
          have HS2 := Lib.hid hs
          have hss : s.size = r.size - i := by rw [hs, BS_size, List.length_drop, len_size]
          clear hgg hp hv hb hs HV1 HB1
          by_cases hin : i < r.size
          · have hi4 : i < r.data.size := hin
            obtain ⟨m, hm⟩ : ∃ m, m = runN r i := ⟨_, rfl⟩
            have HM := Lib.hid hm
            have hm1 : 1 ≤ m := by rw [hm]; unfold runN; omega
            have hmn := runN_le hi4
            rw [← hm] at hmn
            obtain ⟨x, hx⟩ : ∃ x, x = r.data[i]'hi4 := ⟨_, rfl⟩
            have HX := Lib.hid hx
            have hsl := sl_head hi4
            rw [← HS2.out, ← hx] at hsl
            obtain ⟨s1, s2, s3, s4⟩ := hsl
            rw [← hm] at s3 s4
            obtain ⟨xn, hxn⟩ : ∃ xn, x.toNat = xn := ⟨_, rfl⟩
            have hx48 : 48 ≤ xn ∧ xn ≤ 57 := by
              have h1 := HRW.out i
              have h2 : byteAt r i = xn := (dif_pos hin).trans (by rw [← hxn, hx]; rfl)
              rw [h2] at h1; exact h1
            have HX48 := Lib.hid hx48
            have HTL := Lib.hid (fun W => trimleft_any s x (by omega) W)
            rw [s3] at HTL
            obtain ⟨u, hu⟩ : ∃ u, u = BS (r.data.toList.drop (i + m)) := ⟨_, rfl⟩
            have hus : u.size = r.size - i - m := by rw [hu, BS_size, List.length_drop, len_size]; omega
            rw [← hu] at HTL s4
            have HU := Lib.hid hu
            have hlen : (s.size : Int) - (u.size : Int) = (m : Int) := by omega
            have hs0 : 0 < s.data.size := by have : s.size = s.data.size := rfl; omega
            have hxi : (s[0]'hs0).toNat = xn := by rw [← hxn]; exact congrArg UInt8.toNat (s2 hs0)
            have hge : (0 : Int) < (s.size : Int) := by omega
            have hmI : (m : Int) ≤ (s.size : Int) := by omega
            have hc1 : BS [x + 49] = BS [x + 49] := rfl
            obtain ⟨sc, hsc⟩ : ∃ sc, sc = BS [x + 49] := ⟨_, rfl⟩
            have hcv : ∀ W : World, (convert 101 9 (.slice (some ⟨W.heap.size, 0, none⟩) 1 1)).run Tryd.prog (W.alloc (.cells #[.int .u8 (((xn : Int) - 48 + 97) % 256)] 5)) = .ok (.string sc) (W.alloc (.cells #[.int .u8 (((xn : Int) - 48 + 97) % 256)] 5)) := fun W => by
              rw [hsc]
              refine row_conv_at _ _ 1 [x + 49] fun j v hj => ?_
              have e := (Bk.new 5 W #[.int .u8 (((xn : Int) - 48 + 97) % 256)]).cell j
              rw [e]
              cases j with
              | zero =>
                rw [← hj]
                show some (Value.int .u8 _) = some (Value.int .u8 _)
                congr 2
                rw [UInt8.toNat_add, hxn]
                show ((xn : Int) - 48 + 97) % 256 = (((xn + 49) % 256 : Nat) : Int)
                omega
              | succ j => simp at hj
            have hs1 : sc.size ≤ 1 := by rw [hsc, BS_size]; exact Nat.le_refl _
            have HSC := Lib.hid hsc
            have hir : m ≤ 48 := by omega
            have HPN := Lib.hid (HP2.out.step hi4)
            have hs48 : s.size ≤ 48 := by omega
            have HSS := Lib.hid hss
            clear hm hx hx48 hu hsc s3 s2 hc1 hxn hss hus
            by_cases h1m : 1 < m
            · have h1mI : (1 : Int) < (m : Int) := by omega
              have HIM := Lib.hid (fun W hW => HI.out m W (by omega) hW)
              obtain ⟨sd, hsd⟩ : ∃ sd, sd = BS (Lib.decDigits m) := ⟨_, rfl⟩
              have hsz : sd.size + 1 ≤ m := by rw [hsd, BS_size]; exact pd_len2 m h1m
              have hz1 : (t ++ sd).size ≤ 96 := by rw [ByteArray.size_append]; omega
              rw [← hsd] at HIM
              have hz2 : (t ++ sd ++ sc).size ≤ 97 := by rw [ByteArray.size_append]; omega
              have HTN := Lib.hid (show t ++ sd ++ sc = BS (t.data.toList ++ runS m (r.data[i]'hi4)) from by
                rw [HSC.out, hsd, HX.out]
                conv => lhs; rw [← BS_self t]
                rw [BS_app, BS_app]
                unfold runS
                rw [if_pos h1m, List.append_assoc])
              have hz3 : (t ++ sd ++ sc).size ≤ i + m := by rw [ByteArray.size_append, ByteArray.size_append]; omega
              have HZ3 := Lib.hid hz3
              clear hsd hz3
              go_wp2_with (first
                | (go_at_call 65; refine (HTL.out _).mono ?_; rintro e w4 ⟨rfl, rfl⟩)
                | (go_at_call 63; refine (HIM.out _ HB2.out).mono ?_; rintro e w5 ⟨rfl, hx5⟩; have HV5 := Lib.hid (HV2.out.ext hx5); have HB5 := Lib.hid (bext HB2.out hx5 HB2.out.size); clear hx5))
              go_roundg (r.size - (i + m))
              case measure => have := HG2.out; omega
              case rel => exact ⟨i + m, _, _, rfl, rfl, by omega, rfl, HZ3.out, by rw [HTN.out, HM.out]; exact HPN.out, HU.out, by first | exact HV5.out | exact HV5.out.ext (ext_alloc _ _), by first | exact HB5.out | exact bext HB5.out (ext_alloc _ _) HB5.out.size⟩
            · have h1mI : ¬ (1 : Int) < (m : Int) := by omega
              have hz2 : (t ++ sc).size ≤ 97 := by rw [ByteArray.size_append]; omega
              have HTN := Lib.hid (show t ++ sc = BS (t.data.toList ++ runS m (r.data[i]'hi4)) from by
                rw [HSC.out, HX.out]
                conv => lhs; rw [← BS_self t]
                rw [BS_app]
                unfold runS
                rw [if_neg h1m, List.nil_append])
              have HZ3 := Lib.hid (show (t ++ sc).size ≤ i + m from by rw [ByteArray.size_append]; omega)
              go_wp2_with (go_at_call 65; refine (HTL.out _).mono ?_; rintro e w4 ⟨rfl, rfl⟩)
              go_roundg (r.size - (i + m))
              case measure => have := HG2.out; omega
              case rel => exact ⟨i + m, _, _, rfl, rfl, by omega, rfl, HZ3.out, by rw [HTN.out, HM.out]; exact HPN.out, HU.out, by first | exact HV2.out | exact HV2.out.ext (ext_alloc _ _), by first | exact HB2.out | exact bext HB2.out (ext_alloc _ _) HB2.out.size⟩
          · obtain rfl : i = r.size := by omega
            have HTT := Lib.hid (show t = rleB r from HP2.out.stop)
            have hkl : (rs.take k).length ≤ 1000000 := by have := HRL.out; rw [List.length_take]; omega
            have hs0 : ¬ 0 < s.size := by omega
            clear hin
            go_wp2_with (at_builtin; refine wpList_pushS _ rfl _ _ rfl w.heap.size HV2.out (by rfl) t (by rfl) rfl hkl HB2.out.size ?_; intro v5 w5 hv5 hb5 hk5 hk6; have HV5 := Lib.hid hv5; have HB5 := Lib.hid (HB2.out.trans hb5); clear hv5 hb5 hk5 hk6)
            go_roundg (l.length - (k + 1))
            case measure => have := HG1.out; have := HLT.out; omega
            case rel => exact ⟨k + 1, by go_num, by omega, rfl, by rw [HTK.out, ← HTT.out]; exact HV5.out, HB5.out⟩
      · obtain rfl : k = l.length := by omega
        have hv := HV1.out
        rw [← HRL.out, List.take_length] at hv
        obtain ⟨A2, c2, rfl, hc2, hm2, hs2⟩ := hv.tsl
        have HJ1 := Lib.hid (HJ.out A2 c2 wr hs2 hc2)
        rw [HJL.out] at HJ1
        obtain ⟨sp, hsp⟩ : ∃ sp, sp = BS (packL l) := ⟨_, rfl⟩
        rw [← hsp] at HJ1
        have HSP := Lib.hid hsp
        clear hsp hs2 hv hlt
        go_wp2_with (go_at_call 64; refine (HJ1.out).mono ?_; rintro e w6 ⟨rfl, hx6⟩)
        refine bodyPost_ret (v := .tuple #[.string sp, .int .i64 0]) (by simp [results, Tryd.results27, go_sem]) rfl ?_
        exact ⟨bext HB1.out hx6 HB1.out.size, .inr ⟨HOK.out, by rw [HSP.out]⟩⟩
  · rw [decide_eq_false hok] at HV
    have HOK := Lib.hid hok
    clear hok h hz ht
    go_enter Tryd.func27, Tryd.ntmps27
    go_wp2_with (go_at_call 38; refine (HV.out).mono ?_; rintro e w1 ⟨rfl, hx1⟩)
    refine bodyPost_ret (v := .tuple #[.string ⟨#[]⟩, .int .i64 2]) (by simp [results, Tryd.results27, go_sem]) rfl ?_
    exact ⟨hx1, .inl ⟨HOK.out, rfl⟩⟩
end Go.Proofs.YtmgofdgbenfjmaaDoor
