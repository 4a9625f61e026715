/- Needed by pushNone_walk, part 5: texts put together by shake.py; no condition. -/
import Derived.Test.YtfddhafbhceoaaaGreatWA4
import Derived.Test.YtfddhafbhceoaaaGreatWA1
import Derived.Deep.AppendLies
import Derived.Deep.RegionLaw
import Derived.Laws.MakeOwn
import Derived.Lib.ConvBytes
import Derived.Laws.AppendOwn
import Derived.Test.YtfddhafbhceoaaaGreatWA3
namespace Go.Proofs.YtfddhafbhceoaaaGreat
open Go.RowKit Go.Bs Go.Maps
set_option linter.unusedVariables false
set_option linter.unusedSimpArgs false

theorem below_fill16 {w wo : World} {B g : Nat} (h : Below B w wo) (hg : B ≤ g) (v0 v1 v2 v3 v4 v5 v6 v7 v8 v9 v10 v11 v12 v13 v14 v15 : Value) : Below B w (((((((((((((((((wo).setCell ⟨g, 0, none⟩ v0).setCell ⟨g, 1, none⟩ v1).setCell ⟨g, 2, none⟩ v2).setCell ⟨g, 3, none⟩ v3).setCell ⟨g, 4, none⟩ v4).setCell ⟨g, 5, none⟩ v5).setCell ⟨g, 6, none⟩ v6).setCell ⟨g, 7, none⟩ v7).setCell ⟨g, 8, none⟩ v8).setCell ⟨g, 9, none⟩ v9).setCell ⟨g, 10, none⟩ v10).setCell ⟨g, 11, none⟩ v11).setCell ⟨g, 12, none⟩ v12).setCell ⟨g, 13, none⟩ v13).setCell ⟨g, 14, none⟩ v14).setCell ⟨g, 15, none⟩ v15) :=
  ((((((((((((((((h).setCell (p := ⟨g, 0, none⟩) hg v0).setCell (p := ⟨g, 1, none⟩) hg v1).setCell (p := ⟨g, 2, none⟩) hg v2).setCell (p := ⟨g, 3, none⟩) hg v3).setCell (p := ⟨g, 4, none⟩) hg v4).setCell (p := ⟨g, 5, none⟩) hg v5).setCell (p := ⟨g, 6, none⟩) hg v6).setCell (p := ⟨g, 7, none⟩) hg v7).setCell (p := ⟨g, 8, none⟩) hg v8).setCell (p := ⟨g, 9, none⟩) hg v9).setCell (p := ⟨g, 10, none⟩) hg v10).setCell (p := ⟨g, 11, none⟩) hg v11).setCell (p := ⟨g, 12, none⟩) hg v12).setCell (p := ⟨g, 13, none⟩) hg v13).setCell (p := ⟨g, 14, none⟩) hg v14).setCell (p := ⟨g, 15, none⟩) hg v15
theorem tabV16 : tabV 16 = #[.int .u32 (crc4 0 : Nat), .int .u32 (crc4 1 : Nat), .int .u32 (crc4 2 : Nat), .int .u32 (crc4 3 : Nat), .int .u32 (crc4 4 : Nat), .int .u32 (crc4 5 : Nat), .int .u32 (crc4 6 : Nat), .int .u32 (crc4 7 : Nat), .int .u32 (crc4 8 : Nat), .int .u32 (crc4 9 : Nat), .int .u32 (crc4 10 : Nat), .int .u32 (crc4 11 : Nat), .int .u32 (crc4 12 : Nat), .int .u32 (crc4 13 : Nat), .int .u32 (crc4 14 : Nat), .int .u32 (crc4 15 : Nat)] := rfl
set_option maxRecDepth 100000 in
set_option maxHeartbeats 1600000 in
theorem crc_table (w : World) :
    Calls Tryz.prog 324 #[] w fun r w' => r = .returned (.agg (tabV 16)) ∧ Below w.heap.size w w' := by
  go_enter Tryz.func324, Tryz.ntmps324
  go_wp2_with fail
  refine wp_world (fun W => Below w.heap.size w W ∧ W.heap.size = w.heap.size + 2 ∧ Blk W w.heap.size 339 (tabV 0) ∧ Blk W (w.heap.size + 1) 339 (tabV 0)) ⟨by (repeat (first | exact Below.refl _ _ | assumption | (refine below_alloc ?_ _) | (refine Below.setCell ?_ (by first | omega | (simp; done) | (simp; omega)) _) | (refine Below.drew ?_) | (refine below_drewN ?_ _) | (refine below_then (by assumption) ?_))), by simp, (Blk.new w _ _).alloc _, Blk.new1 w _ _ _⟩ ?_
  intro W ⟨hbW, hzW, q0, q1⟩
  have Q0 := hid q0; have Q1 := hid q1; have HZ := hid hzW
  clear q0 q1 hzW
  go_loopw [4] (fun i wr => ∃ k : Nat, k ≤ 16 ∧ i = .int .i64 k ∧ Tch (· = w.heap.size + 1) W wr ∧ Blk wr (w.heap.size + 1) 339 (tabV k)) (fun i _ => 16 - (intOf i).toNat)
  case atStart => exact ⟨0, by omega, rfl, Tch.refl _ _, Q1.out⟩
  case round =>
    obtain ⟨k, hk, rfl, ht, hB⟩ := hrel
    obtain ⟨wo, hwo⟩ : ∃ wo : World, wo = wr := ⟨_, rfl⟩
    subst hwo
    have HT := hid ht; have HB := hid hB
    clear ht hB
    by_cases hlt : k < 16
    · have i1 : (k : Int) < 16 := by omega
      have e1 : (k : Int) % 4294967296 = k := by omega
      go_wp2_with fail
      go_loopw [3, 9] (fun c j w' => ∃ n : Nat, n ≤ 4 ∧ j = .int .i64 n ∧ c = .int .u32 (iter4 n k : Nat) ∧ w' = wo) (fun _ j _ => 4 - (intOf j).toNat)
      case atStart => exact ⟨0, by omega, rfl, by simp [iter4, e1], rfl⟩
      case round =>
        obtain ⟨n, hn, rfl, rfl, rfl⟩ := hrel
        by_cases hl4 : n < 4
        · have i2 : (n : Int) < 4 := by omega
          have HS := hid (crc_step (iter4 n k) (iter4_lt (by omega) n) wr)
          go_wp2_with fail
          refine HS.out.mono ?_
          rintro r w1 ⟨rfl, rfl⟩
          go_wp2
          go_roundw
          case rel => exact ⟨n + 1, by omega, by go_num, rfl, trivial⟩
          case measure => simp [intOf]; omega
        · obtain rfl : n = 4 := by omega
          have hB2 : Blk (wr.setCell ⟨w.heap.size + 1, k, none⟩ (.int .u32 (iter4 4 k : Nat))) (w.heap.size + 1) 339 (tabV (k + 1)) := by
            rw [← tabV_set k hlt]; exact HB.out.set k _
          have c9 : wr.cell? ⟨w.heap.size + 1, k, none⟩ = some (.int .u32 ((if k < k then crc4 k else 0 : Nat) : Int)) := (HB.out.cell k).trans (tabV_at k k hlt)
          have f9 := HB.out.free k
          have HB2 := hid hB2
          have HT2 := hid (HT.out.setCell (p := ⟨w.heap.size + 1, k, none⟩) (fun _ => rfl) (.int .u32 (iter4 4 k : Nat)))
          clear hB2
          go_wp2
          go_roundw
          case rel => exact ⟨k + 1, by omega, by go_num, HT2.out, HB2.out⟩
          case measure => simp [intOf]; omega
    · obtain rfl : k = 16 := by omega
      obtain ⟨v0, v1, v2, v3, v4, v5, v6, v7, v8, v9, v10, v11, v12, v13, v14, v15, hv⟩ : ∃ v0 v1 v2 v3 v4 v5 v6 v7 v8 v9 v10 v11 v12 v13 v14 v15 : Nat, tabV 16 = #[Value.int .u32 (v0 : Int), Value.int .u32 (v1 : Int), Value.int .u32 (v2 : Int), Value.int .u32 (v3 : Int), Value.int .u32 (v4 : Int), Value.int .u32 (v5 : Int), Value.int .u32 (v6 : Int), Value.int .u32 (v7 : Int), Value.int .u32 (v8 : Int), Value.int .u32 (v9 : Int), Value.int .u32 (v10 : Int), Value.int .u32 (v11 : Int), Value.int .u32 (v12 : Int), Value.int .u32 (v13 : Int), Value.int .u32 (v14 : Int), Value.int .u32 (v15 : Int)] := ⟨_, _, _, _, _, _, _, _, _, _, _, _, _, _, _, _, tabV16⟩
      have hB9 := HB.out
      rw [hv] at hB9
      have HV := hid hv
      have hB0 : Blk wo w.heap.size 339 (tabV 0) := Q0.out.tch HT.out (by simp)
      have y0 : wo.cell? ⟨w.heap.size + 1, 0, none⟩ = some (.int .u32 (v0 : Int)) := hB9.cell 0
      have z0 : wo.cell? ⟨w.heap.size, 0, none⟩ = some (.int .u32 0) := (hB0.cell 0).trans (tabV_at 0 0 (by decide))
      have f0 := hB0.free 0
      have y1 : wo.cell? ⟨w.heap.size + 1, 1, none⟩ = some (.int .u32 (v1 : Int)) := hB9.cell 1
      have z1 : wo.cell? ⟨w.heap.size, 1, none⟩ = some (.int .u32 0) := (hB0.cell 1).trans (tabV_at 0 1 (by decide))
      have f1 := hB0.free 1
      have y2 : wo.cell? ⟨w.heap.size + 1, 2, none⟩ = some (.int .u32 (v2 : Int)) := hB9.cell 2
      have z2 : wo.cell? ⟨w.heap.size, 2, none⟩ = some (.int .u32 0) := (hB0.cell 2).trans (tabV_at 0 2 (by decide))
      have f2 := hB0.free 2
      have y3 : wo.cell? ⟨w.heap.size + 1, 3, none⟩ = some (.int .u32 (v3 : Int)) := hB9.cell 3
      have z3 : wo.cell? ⟨w.heap.size, 3, none⟩ = some (.int .u32 0) := (hB0.cell 3).trans (tabV_at 0 3 (by decide))
      have f3 := hB0.free 3
      have y4 : wo.cell? ⟨w.heap.size + 1, 4, none⟩ = some (.int .u32 (v4 : Int)) := hB9.cell 4
      have z4 : wo.cell? ⟨w.heap.size, 4, none⟩ = some (.int .u32 0) := (hB0.cell 4).trans (tabV_at 0 4 (by decide))
      have f4 := hB0.free 4
      have y5 : wo.cell? ⟨w.heap.size + 1, 5, none⟩ = some (.int .u32 (v5 : Int)) := hB9.cell 5
      have z5 : wo.cell? ⟨w.heap.size, 5, none⟩ = some (.int .u32 0) := (hB0.cell 5).trans (tabV_at 0 5 (by decide))
      have f5 := hB0.free 5
      have y6 : wo.cell? ⟨w.heap.size + 1, 6, none⟩ = some (.int .u32 (v6 : Int)) := hB9.cell 6
      have z6 : wo.cell? ⟨w.heap.size, 6, none⟩ = some (.int .u32 0) := (hB0.cell 6).trans (tabV_at 0 6 (by decide))
      have f6 := hB0.free 6
      have y7 : wo.cell? ⟨w.heap.size + 1, 7, none⟩ = some (.int .u32 (v7 : Int)) := hB9.cell 7
      have z7 : wo.cell? ⟨w.heap.size, 7, none⟩ = some (.int .u32 0) := (hB0.cell 7).trans (tabV_at 0 7 (by decide))
      have f7 := hB0.free 7
      have y8 : wo.cell? ⟨w.heap.size + 1, 8, none⟩ = some (.int .u32 (v8 : Int)) := hB9.cell 8
      have z8 : wo.cell? ⟨w.heap.size, 8, none⟩ = some (.int .u32 0) := (hB0.cell 8).trans (tabV_at 0 8 (by decide))
      have f8 := hB0.free 8
      have y9 : wo.cell? ⟨w.heap.size + 1, 9, none⟩ = some (.int .u32 (v9 : Int)) := hB9.cell 9
      have z9 : wo.cell? ⟨w.heap.size, 9, none⟩ = some (.int .u32 0) := (hB0.cell 9).trans (tabV_at 0 9 (by decide))
      have f9 := hB0.free 9
      have y10 : wo.cell? ⟨w.heap.size + 1, 10, none⟩ = some (.int .u32 (v10 : Int)) := hB9.cell 10
      have z10 : wo.cell? ⟨w.heap.size, 10, none⟩ = some (.int .u32 0) := (hB0.cell 10).trans (tabV_at 0 10 (by decide))
      have f10 := hB0.free 10
      have y11 : wo.cell? ⟨w.heap.size + 1, 11, none⟩ = some (.int .u32 (v11 : Int)) := hB9.cell 11
      have z11 : wo.cell? ⟨w.heap.size, 11, none⟩ = some (.int .u32 0) := (hB0.cell 11).trans (tabV_at 0 11 (by decide))
      have f11 := hB0.free 11
      have y12 : wo.cell? ⟨w.heap.size + 1, 12, none⟩ = some (.int .u32 (v12 : Int)) := hB9.cell 12
      have z12 : wo.cell? ⟨w.heap.size, 12, none⟩ = some (.int .u32 0) := (hB0.cell 12).trans (tabV_at 0 12 (by decide))
      have f12 := hB0.free 12
      have y13 : wo.cell? ⟨w.heap.size + 1, 13, none⟩ = some (.int .u32 (v13 : Int)) := hB9.cell 13
      have z13 : wo.cell? ⟨w.heap.size, 13, none⟩ = some (.int .u32 0) := (hB0.cell 13).trans (tabV_at 0 13 (by decide))
      have f13 := hB0.free 13
      have y14 : wo.cell? ⟨w.heap.size + 1, 14, none⟩ = some (.int .u32 (v14 : Int)) := hB9.cell 14
      have z14 : wo.cell? ⟨w.heap.size, 14, none⟩ = some (.int .u32 0) := (hB0.cell 14).trans (tabV_at 0 14 (by decide))
      have f14 := hB0.free 14
      have y15 : wo.cell? ⟨w.heap.size + 1, 15, none⟩ = some (.int .u32 (v15 : Int)) := hB9.cell 15
      have z15 : wo.cell? ⟨w.heap.size, 15, none⟩ = some (.int .u32 0) := (hB0.cell 15).trans (tabV_at 0 15 (by decide))
      have f15 := hB0.free 15
      clear hB9 hv HB
      clear hB0
      go_wp2
      refine bodyPost_ret (v := .agg #[Value.int .u32 (v0 : Int), Value.int .u32 (v1 : Int), Value.int .u32 (v2 : Int), Value.int .u32 (v3 : Int), Value.int .u32 (v4 : Int), Value.int .u32 (v5 : Int), Value.int .u32 (v6 : Int), Value.int .u32 (v7 : Int), Value.int .u32 (v8 : Int), Value.int .u32 (v9 : Int), Value.int .u32 (v10 : Int), Value.int .u32 (v11 : Int), Value.int .u32 (v12 : Int), Value.int .u32 (v13 : Int), Value.int .u32 (v14 : Int), Value.int .u32 (v15 : Int)]) (by simp [results, Tryz.results324, go_sem, z0, z1, z2, z3, z4, z5, z6, z7, z8, z9, z10, z11, z12, z13, z14, z15]) rfl ⟨by rw [HV.out], ?_⟩
      have hb2 : Below w.heap.size W wo := HT.out.to_below (by have := HZ.out; omega) (by intro b _ e; omega)
      have hb3 := hbW.trans hb2
      exact below_fill16 hb3 (Nat.le_refl _) (.int .u32 (v0 : Int)) (.int .u32 (v1 : Int)) (.int .u32 (v2 : Int)) (.int .u32 (v3 : Int)) (.int .u32 (v4 : Int)) (.int .u32 (v5 : Int)) (.int .u32 (v6 : Int)) (.int .u32 (v7 : Int)) (.int .u32 (v8 : Int)) (.int .u32 (v9 : Int)) (.int .u32 (v10 : Int)) (.int .u32 (v11 : Int)) (.int .u32 (v12 : Int)) (.int .u32 (v13 : Int)) (.int .u32 (v14 : Int)) (.int .u32 (v15 : Int))



theorem look_u32 {y : Nat} (h : y < 4294967296) : bits BinOp.xor IntKind.u32 ((y : Int) / 16) ((crc4 (y % 16) : Nat) : Int) = ((crc4 y : Nat) : Int) := by
  have := u32_xor_nat (y / 16) (crc4 (y % 16)) (by omega) (crc4_lt (by omega))
  rw [crc4_look] at this
  rw [← this]
  rfl
theorem into_u32 {c : Nat} (h : c < 4294967296) (x : UInt8) : bits BinOp.xor IntKind.u32 (c : Int) ((x.toNat : Int) % 4294967296) = ((c ^^^ x.toNat : Nat) : Int) := by
  have hx := x.toNat_lt
  rw [← u32_xor_nat c x.toNat h (by omega), show (x.toNat : Int) % 4294967296 = (x.toNat : Int) by omega]

set_option maxRecDepth 100000 in
set_option maxHeartbeats 1600000 in
theorem crc_add (c : Nat) (hc : c < 4294967296) (D : List UInt8) (ad : Option Addr) (nd cd : Nat) (w : World) (hD : rBytes.r (· < w.heap.size) w [.slice ad nd cd] D) :
    Calls Tryz.prog 258 #[.int .u32 c, .slice ad nd cd] w fun r w' => r = .returned (.int .u32 (crcAdd c D : Nat)) ∧ Below w.heap.size w w' := by
  obtain ⟨rfl, hm, _, _⟩ := sl_len hD
  have HD := hid hD; clear hD
  go_enter Tryz.func258, Tryz.ntmps258
  go_wp2_with fail
  refine (crc_table w).mono ?_
  rintro r w1 ⟨rfl, hb1⟩
  obtain ⟨v0, v1, v2, v3, v4, v5, v6, v7, v8, v9, v10, v11, v12, v13, v14, v15, hv⟩ : ∃ v0 v1 v2 v3 v4 v5 v6 v7 v8 v9 v10 v11 v12 v13 v14 v15 : Nat, tabV 16 = #[Value.int .u32 (v0 : Int), Value.int .u32 (v1 : Int), Value.int .u32 (v2 : Int), Value.int .u32 (v3 : Int), Value.int .u32 (v4 : Int), Value.int .u32 (v5 : Int), Value.int .u32 (v6 : Int), Value.int .u32 (v7 : Int), Value.int .u32 (v8 : Int), Value.int .u32 (v9 : Int), Value.int .u32 (v10 : Int), Value.int .u32 (v11 : Int), Value.int .u32 (v12 : Int), Value.int .u32 (v13 : Int), Value.int .u32 (v14 : Int), Value.int .u32 (v15 : Int)] := ⟨_, _, _, _, _, _, _, _, _, _, _, _, _, _, _, _, tabV16⟩
  rw [hv]
  have HV := hid hv
  clear hv
  go_wp2_with fail
  refine wp_world (fun W => Below w.heap.size w W ∧ w1.heap.size < W.heap.size ∧ Blk W w1.heap.size 339 (tabV 16)) ⟨by (repeat (first | with_reducible exact Below.refl _ _ | with_reducible assumption | (with_reducible refine below_alloc ?_ _) | (with_reducible refine Below.setCell ?_ (by first | omega | (simp; done) | (simp; omega)) _) | (with_reducible refine Below.drew ?_) | (with_reducible refine below_drewN ?_ _) | (refine below_then (by with_reducible assumption) ?_))), by simp, by rw [HV.out]; exact Blk.new w1 _ _⟩ ?_
  intro W ⟨hbW, hzW, hQ⟩
  have HQ := hid hQ; clear hQ
  go_wp2_with fail
  go_loopw [0, 11] (fun s i wr => ∃ (k d : Nat), k ≤ D.length ∧ i = .int .i64 k ∧ s = .int .u32 d ∧ d < 4294967296 ∧ Hid (crcAdd c D = crcAdd d (D.drop k)) ∧ wr = W) (fun _ i _ => D.length - (intOf i).toNat)
  case atStart => exact ⟨0, c, Nat.zero_le _, rfl, rfl, hc, hid rfl, rfl⟩
  case round =>
    obtain ⟨k, d, hk, rfl, rfl, hd, hf, rfl⟩ := hrel
    by_cases hlt : k < D.length
    · obtain ⟨b, o, hA, hbb, hx⟩ := byte_at (lift HD.out hbW) hlt
      subst hA
      have hst := hid (show crcAdd d (D.drop k) = crcAdd (crcByte d D[k]) (D.drop (k + 1)) by rw [List.drop_eq_getElem_cons hlt]; rfl)
      generalize D[k] = x at *
      have i1 : (k : Int) < (D.length : Int) := by omega
      have hb1 := hid (crcByte_lt (x := x) hd)
      have hcb := hid (show crcByte d x = crc4 (crc4 (d ^^^ x.toNat)) from rfl)
      have hy : d ^^^ x.toNat < 4294967296 := xor_lt32 hd (by have := x.toNat_lt; omega)
      have e1 := into_u32 hd x
      generalize d ^^^ x.toNat = y at *
      have hz : crc4 y < 4294967296 := crc4_lt hy
      have e2 := and15_u32 hy
      have e3 := look_u32 hy
      have m1 : ((y % 16 : Nat) : Int) < 16 := by omega
      have c1 : wr.cell? ⟨w1.heap.size, y % 16, none⟩ = some (.int .u32 (crc4 (y % 16) : Nat)) := by
        have h := (HQ.out.cell (y % 16)).trans (tabV_at 16 (y % 16) (by omega))
        rw [if_pos (by omega)] at h; exact h
      generalize crc4 (y % 16) = t1 at *
      generalize y % 16 = m at *
      generalize crc4 y = z at *
      have e4 := and15_u32 hz
      have e5 := look_u32 hz
      have m2 : ((z % 16 : Nat) : Int) < 16 := by omega
      have c2 : wr.cell? ⟨w1.heap.size, z % 16, none⟩ = some (.int .u32 (crc4 (z % 16) : Nat)) := by
        have h := (HQ.out.cell (z % 16)).trans (tabV_at 16 (z % 16) (by omega))
        rw [if_pos (by omega)] at h; exact h
      generalize crc4 (z % 16) = t2 at *
      generalize z % 16 = n at *
      generalize crc4 z = q at *
      go_wp2
      go_roundw
      case rel => exact ⟨k + 1, q, by omega, by go_num, rfl, by have := hb1.out; rw [hcb.out] at this; exact this, hid (by rw [hf.out, hst.out, hcb.out]), trivial⟩
      case measure => simp [intOf]; omega
    · obtain rfl : k = D.length := by omega
      have hff : Hid (crcAdd c D = d) := hid (by rw [hf.out, List.drop_length]; rfl)
      go_wp2
      go_ret
      exact ⟨by rw [hff.out]; rfl, hbW⟩

set_option maxRecDepth 100000 in
theorem crc_sum (D : List UInt8) (ad : Option Addr) (nd cd : Nat) (w : World) (hD : rBytes.r (· < w.heap.size) w [.slice ad nd cd] D) :
    Calls Tryz.prog 192 #[.slice ad nd cd] w fun r w' => r = .returned (.int .u32 (crcSum D : Nat)) ∧ Below w.heap.size w w' := by
  have HA := hid (crc_add 4294967295 (by decide) D ad nd cd w hD)
  have hlt := crcAdd_lt D (c := 4294967295) (by decide)
  have hff : Hid (crcSum D = 4294967295 - crcAdd 4294967295 D) := hid rfl
  generalize crcAdd 4294967295 D = s at *
  clear hD
  go_enter Tryz.func192, Tryz.ntmps192
  go_wp2_with fail
  refine (crc_begin w).mono ?_
  rintro r w1 ⟨rfl, rfl⟩
  go_wp2_with fail
  refine HA.out.mono ?_
  rintro r w2 ⟨rfl, hb2⟩
  go_wp2_with fail
  refine (crc_end s hlt w2).mono ?_
  rintro r w3 ⟨rfl, rfl⟩
  go_wp2
  go_ret
  exact ⟨by rw [hff.out]; rfl, hb2⟩
end Go.Proofs.YtfddhafbhceoaaaGreat
namespace Go.Bs
open Go.RowKit
def fixedB : Nat → Nat → List UInt8
  | 0, _ => []
  | n + 1, x => UInt8.ofNat (x % 256) :: fixedB n (x / 256)
theorem fixedB_len : ∀ (n x : Nat), (fixedB n x).length = n
  | 0, _ => rfl
  | n + 1, x => by simp [fixedB, fixedB_len n]
theorem fixedB_snoc : ∀ (n x : Nat), fixedB (n + 1) x = fixedB n x ++ [UInt8.ofNat (x / 256 ^ n % 256)]
  | 0, x => by simp [fixedB]
  | n + 1, x => by
    rw [fixedB, fixedB_snoc n (x / 256), fixedB, List.cons_append, Nat.div_div_eq_div_mul, Nat.pow_succ, Nat.mul_comm 256]
end Go.Bs
namespace Go.Proofs.YtfddhafbhceoaaaGreat
open Go.RowKit Go.Bs Go.Maps
set_option linter.unusedVariables false
set_option linter.unusedSimpArgs false

set_option maxRecDepth 100000 in
set_option maxHeartbeats 1600000 in
theorem pen_fixed (x : Nat) (hx : x < 18446744073709551616) (n : Nat) (hn : n ≤ 8) (w : World) :
    Calls Tryz.prog 266 #[.int .u64 x, .int .i64 n] w fun r w' => ∃ v, r = .returned v ∧ w'.ownsRow w.heap.size 5 1 v n (byteCells (fixedB n x)) ∧ Below w.heap.size w w' := by
  obtain ⟨i0, hi, hz0, hz1, hz2⟩ := info_parts info8
  have d1 : max (n : Int) 0 = n := by omega
  have d2 : min (n : Int) 8 = n := by omega
  have d3 : (if (n : Int) < 0 then (0 : Int) else n) = n := by rw [if_neg (by omega)]
  have d4 : (if (8 : Int) < n then (8 : Int) else n) = n := by rw [if_neg (by omega)]
  go_enter Tryz.func266, Tryz.ntmps266
  go_wp2_with fail
  go_loopw [0, 5, 9] (fun y o i wr => ∃ k : Nat, k ≤ n ∧ i = .int .i64 k ∧ y = .int .u64 (x / 256 ^ k : Nat) ∧ wr.ownsRow w.heap.size 5 1 o k (byteCells (fixedB k x)) ∧ Below w.heap.size w wr) (fun _ _ i _ => n - (intOf i).toNat)
  case atStart => exact ⟨0, Nat.zero_le _, rfl, by simp, ⟨rfl, .inl ⟨rfl, rfl⟩⟩, Below.refl _ _⟩
  case round =>
    obtain ⟨k, hk, rfl, rfl, hown, hb⟩ := hrel
    have hbs := hb.size
    obtain ⟨aJ, cJ, rfl⟩ := own_form hown
    have HO := hid hown
    clear hown
    by_cases hlt : k < n
    · have i1 : (k : Int) < (n : Int) := by omega
      have hy : x / 256 ^ k < 18446744073709551616 := Nat.lt_of_le_of_lt (Nat.div_le_self _ _) hx
      have hfin := hid (fixedB_snoc k x)
      have hdv : Hid (x / 256 ^ (k + 1) = x / 256 ^ k / 256) := hid (by rw [Nat.pow_succ, Nat.div_div_eq_div_mul])
      generalize x / 256 ^ k = y at *
      have hby : Hid ((y : Int) % 256 = ((UInt8.ofNat (y % 256)).toNat : Int)) := hid (by rw [← byte_small (by omega)]; omega)
      have e0 : (y : Int) % 256 % 256 = (y : Int) % 256 := by omega
      go_wp2_with (at_builtin; go_loud (refine wpList_append_src rfl _ _ _ rfl w.heap.size 5 i0 (.int .u8 0) 1 1 Tryz.underlying22 hi hz0 hz1 hz2 rfl (by decide) (.slice aJ k cJ) k (byteCells (fixedB k x)) rfl (own_below HO.out (by (repeat (first | with_reducible exact Below.refl _ _ | with_reducible assumption | (with_reducible refine below_alloc ?_ _) | (with_reducible refine Below.setCell ?_ (by first | omega | (simp; done) | (simp; omega)) _) | (with_reducible refine Below.drew ?_) | (with_reducible refine below_drewN ?_ _) | (refine below_then (by with_reducible assumption) ?_))))) (some ⟨wr.heap.size, 0, none⟩) 1 1 [.int .u8 ((y : Int) % 256)] rfl (src_new1 wr 5 _ rfl rfl rfl) (by intro u hu; simp at hu; subst hu; rfl) (by simp only [maxLen]; omega) (by omega) (by simp; omega) ?_; intro v' w1 hown1 hgrow1 hat1; have HG := hid hgrow1; have HO1 := hid hown1; clear hgrow1 hown1 hat1))
      have ho := HO1.out
      rw [hby.out, byteCells_snoc, ← hfin.out] at ho
      have hB : Below w.heap.size w w1 := Below.grown (by (repeat (first | with_reducible exact Below.refl _ _ | with_reducible assumption | (with_reducible refine below_alloc ?_ _) | (with_reducible refine Below.setCell ?_ (by first | omega | (simp; done) | (simp; omega)) _) | (with_reducible refine Below.drew ?_) | (with_reducible refine below_drewN ?_ _) | (refine below_then (by with_reducible assumption) ?_)))) HG.out (by simp; omega) (fun g e => (HO.out.lt g e).1)
      have HO2 := hid ho
      clear ho
      go_wp2_with fail
      go_roundw
      case rel => exact ⟨k + 1, by omega, by go_num, by rw [hdv.out]; go_num, HO2.out, hB⟩
      case measure => simp [intOf]; omega
    · obtain rfl : k = n := by omega
      go_wp2
      go_ret
      exact ⟨_, rfl, HO.out, hb⟩

set_option maxRecDepth 100000 in
theorem pen_wfixed (w : World) {g base most : Nat} {J : List UInt8} {a : Option Addr} {c : Nat} (h : PenAt w g base most J a c) (x : Nat) (hx : x < 18446744073709551616) (n : Nat) (hn : n ≤ 8) (hfit : J.length + n ≤ most) (hlen : J.length + n ≤ 100000000000000) :
    Calls Tryz.prog 240 #[.pointer (some ⟨g, 0, none⟩), .int .u64 x, .int .i64 n] w fun r w' => r = .returned (.tuple #[]) ∧ PenStep w g base most (J ++ fixedB n x) a w' := by
  have hl := fixedB_len n x
  have HF := hid (pen_fixed x hx n hn w)
  have HP := hid h
  clear h
  generalize fixedB n x = D at *
  go_enter Tryz.func240, Tryz.ntmps240
  go_wp2_with fail
  refine HF.out.mono ?_
  rintro r w1 ⟨v, rfl, ho, hb1⟩
  obtain ⟨a1, c1, rfl⟩ := own_form ho
  have HQ := hid (pen_put w1 (HP.out.later hb1) D a1 n c1 (own_bytes hl.symm ho) (by omega) (by omega))
  clear ho
  go_wp2_with fail
  refine HQ.out.mono ?_
  rintro r w2 ⟨rfl, hst⟩
  have HST := hid (PenStep.later hb1 hst)
  clear hst
  go_wp2
  first | go_end0 | refine bodyPost_ret (results_none rfl _ _ _) rfl ?_
  exact ⟨rfl, HST.out⟩

theorem toNat_cast {x : Int} (h : 0 ≤ x) : ((x.toNat : Nat) : Int) = x := Int.toNat_of_nonneg h
/-- Numbers' bytes, one behind the other. -/
def numsB (l : List Int) : List UInt8 := (l.map fun x => varB x.toNat).flatten
def deltaB (pos : Int) (l : List Int) : List UInt8 := varB l.length ++ numsB (stepsL pos l)
def lnkF (pos : Int) : Option Int → List Link → List UInt8
  | _, [] => []
  | p, x :: l => varB (match p with | none => x.stream | some q => x.stream - q - 1).toNat ++ deltaB pos x.backs ++ lnkF pos (some x.stream) l
def linksB (pos : Int) (l : List Link) : List UInt8 := varB l.length ++ lnkF pos none l
theorem numsB_cons (x : Int) (l : List Int) : numsB (x :: l) = varB x.toNat ++ numsB l := by simp [numsB]
theorem numsB_len (l : List Int) : (numsB l).length ≤ 10 * l.length := by
  induction l with
  | nil => simp [numsB]
  | cons x l ih =>
    rw [numsB_cons, List.length_append, List.length_cons]
    have := (varB_len x.toNat).1
    omega
theorem stepsL_len : ∀ (p : Int) (l : List Int), (stepsL p l).length = l.length
  | _, [] => rfl
  | p, x :: l => by simp only [stepsL, List.length_cons, stepsL_len x l]
theorem varB_len_small {x : Nat} (h : x < 128) : (varB x).length = 1 := by rw [varB_small h]; rfl
theorem deltaB_len (pos : Int) (l : List Int) (h : l.length < 128) : (deltaB pos l).length ≤ 1 + 10 * l.length := by
  have := numsB_len (stepsL pos l)
  rw [stepsL_len] at this
  unfold deltaB
  rw [List.length_append, varB_len_small h]
  omega
/-- What was there, and no part of the pen, is there yet. -/
theorem pen_data {α : Type} {A : Rp α} {w w1 : World} {g : Nat} {a a1 : Option Addr} {cs : List Value} {x : α} (ht : Tch (PenF g a) w w1) (ha : a1.map Addr.block = a.map Addr.block ∨ ∃ q, a1.map Addr.block = some q ∧ w.heap.size ≤ q)
    (h : A.r (fun q => q < w.heap.size ∧ ¬ PenF g a q) w cs x) : A.r (fun q => q < w1.heap.size ∧ ¬ PenF g a1 q) w1 cs x :=
  A.mono (A.keep h fun q hq => ht.block q hq.1 hq.2) fun q hq => ⟨Nat.lt_of_lt_of_le hq.1 ht.size, penF_old ha hq.1 hq.2⟩
theorem pen_later {α : Type} {A : Rp α} {w w1 : World} {g : Nat} {a : Option Addr} {cs : List Value} {x : α} (hb : Below w.heap.size w w1)
    (h : A.r (fun q => q < w.heap.size ∧ ¬ PenF g a q) w cs x) : A.r (fun q => q < w1.heap.size ∧ ¬ PenF g a q) w1 cs x :=
  A.mono (A.keep h fun q hq => hb.block q hq.1) fun q hq => ⟨Nat.lt_of_lt_of_le hq.1 hb.size, hq.2⟩
theorem pen_low {α : Type} {A : Rp α} {w : World} {g : Nat} {a : Option Addr} {cs : List Value} {x : α} (h : A.r (fun q => q < w.heap.size ∧ ¬ PenF g a q) w cs x) : A.r (· < w.heap.size) w cs x := A.mono h fun q hq => hq.1
open Go.RowKit Go.Bs
/-- Blocks made since a world, in another. -/
def Fresh (w w' : World) (b : Nat) : Prop := w.heap.size ≤ b ∧ b < w'.heap.size

theorem u64s_bounds {S : Nat → Prop} {w : World} {a : Option Addr} {n c : Nat} {l : List Int} (h : rU64s.r S w [.slice a n c] l) : ∀ x ∈ l, 0 ≤ x ∧ x ≤ 18446744073709551615 := by
  intro x hx
  obtain ⟨i, hi, rfl⟩ := List.getElem_of_mem hx
  obtain ⟨b, o, _, _, _, h2⟩ := u64_at h hi
  exact h2

theorem infoLink : (Tryz.prog.info? 215).map (fun i => (i.zero, i.size, i.bytes)) = some (some (.agg #[.int .u64 0, .slice none 0 0]), 2, 32) := by kernel_rfl

theorem src_new1 {w : World} (W : World) (e : TypeId) (cs : List Value) (hB : w = W.alloc (.cells cs.toArray e)) {g : Nat} (hg : g = W.heap.size) {sz : Nat} (hs : cs.length = sz) : Src w (some ⟨g, 0, none⟩) 1 sz cs := by
  subst hB hg
  refine ⟨by omega, .inr ⟨_, 0, rfl, fun j u hu => ?_⟩⟩
  rw [Nat.zero_add, Blk.cell (Blk.new W e cs.toArray)]
  simpa using hu


theorem linkZ_len_le (pos : Int) (l : List Link) (hR : linksR pos l = true) : (lnkF pos none l).length ≤ 51 * l.length := by
  have key : ∀ (l : List Link) (p : Option Int), (∀ x ∈ l, linkR pos x = true) → (lnkF pos p l).length ≤ 51 * l.length := by
    intro l
    induction l with
    | nil => intro p _; simp [lnkF]
    | cons x l ih =>
      intro p hx
      have h1 := hx x (by simp)
      simp only [linkR, Bool.and_eq_true, decide_eq_true_eq] at h1
      have h2 := ih (some x.stream) (fun y hy => hx y (by simp [hy]))
      have h3 := deltaB_len pos x.backs (by omega)
      cases p with
      | none =>
        have h4 := (varB_len x.stream.toNat).1
        simp only [lnkF, List.length_append, List.length_cons]
        omega
      | some q =>
        have h4 := (varB_len (x.stream - q - 1).toNat).1
        simp only [lnkF, List.length_append, List.length_cons]
        omega
  simp only [linksR, Bool.and_eq_true, decide_eq_true_eq, List.all_eq_true] at hR
  exact key l none hR.2.2


theorem epoch_put0 (w : World) {g base most : Nat} {J : List UInt8} {a : Option Addr} {c : Nat} (h : PenAt w g base most J a c) (x : Nat) (hx : x < 18446744073709551616) (hfit : J.length + (varB x).length ≤ most) (hlen : J.length + (varB x).length ≤ 100000000000000) :
    Calls Tryz.prog 237 #[.pointer (some ⟨g, 0, none⟩), .int .u64 x, .bool true] w fun r w' => r = .returned (.tuple #[]) ∧ PenStep w g base most (J ++ varB x) a w' := by
  have HV := hid (varint_put w h x hx hfit hlen)
  clear h
  go_enter Tryz.func237, Tryz.ntmps237
  go_wp2_with fail
  refine HV.out.mono ?_
  rintro r w1 ⟨rfl, hst⟩
  have HST := hid hst
  clear hst
  go_wp2
  first | go_end0 | refine bodyPost_ret (results_none rfl _ _ _) rfl ?_
  exact ⟨rfl, HST.out⟩
theorem epoch_put (w : World) {g base most : Nat} {J : List UInt8} {a : Option Addr} {c : Nat} (h : PenAt w g base most J a c) (x : Nat) (hx : epR (x : Int) = true) (hfit : J.length + (varB x).length ≤ most) (hlen : J.length + (varB x).length ≤ 100000000000000) :
    Calls Tryz.prog 162 #[.pointer (some ⟨g, 0, none⟩), .int .u64 x] w fun r w' => r = .returned (.tuple #[]) ∧ PenStep w g base most (J ++ varB x) a w' := by
  have hx' := hx
  simp only [epR, decide_eq_true_eq] at hx'
  have HR := hid (epoch_right (x : Int) w)
  rw [hx] at HR
  have HV := hid (epoch_put0 w h x (by omega) hfit hlen)
  clear h hx hx'
  go_enter Tryz.func162, Tryz.ntmps162
  go_wp2_with fail
  refine HR.out.mono ?_
  rintro r w1 ⟨rfl, rfl⟩
  go_wp2_with fail
  refine HV.out.mono ?_
  rintro r w1 ⟨rfl, hst⟩
  have HST := hid hst
  clear hst
  go_wp2
  first | go_end0 | refine bodyPost_ret (results_none rfl _ _ _) rfl ?_
  exact ⟨rfl, HST.out⟩
theorem epoch_putpos (w : World) {g base most : Nat} {J : List UInt8} {a : Option Addr} {c : Nat} (h : PenAt w g base most J a c) (x : Nat) (hx : poR (x : Int) = true) (hfit : J.length + (varB x).length ≤ most) (hlen : J.length + (varB x).length ≤ 100000000000000) :
    Calls Tryz.prog 261 #[.pointer (some ⟨g, 0, none⟩), .int .u64 x] w fun r w' => r = .returned (.tuple #[]) ∧ PenStep w g base most (J ++ varB x) a w' := by
  have hx' := hx
  simp only [poR, decide_eq_true_eq] at hx'
  have HR := hid (epoch_pos (x : Int) w)
  rw [hx] at HR
  have HV := hid (epoch_put0 w h x (by omega) hfit hlen)
  clear h hx hx'
  go_enter Tryz.func261, Tryz.ntmps261
  go_wp2_with fail
  refine HR.out.mono ?_
  rintro r w1 ⟨rfl, rfl⟩
  go_wp2_with fail
  refine HV.out.mono ?_
  rintro r w1 ⟨rfl, hst⟩
  have HST := hid hst
  clear hst
  go_wp2
  first | go_end0 | refine bodyPost_ret (results_none rfl _ _ _) rfl ?_
  exact ⟨rfl, HST.out⟩

theorem b_blk {w : World} {g : Nat} {t : TypeId} {v0 v1 v2 : Value} (h : Blk w g t #[v0, v1, v2]) : w.cell? ⟨g, 0, none⟩ = some v0 ∧ w.cell? ⟨g, 1, none⟩ = some v1 ∧ w.cell? ⟨g, 2, none⟩ = some v2 ∧ w.frozen? ⟨g, 0, none⟩ = false ∧ w.frozen? ⟨g, 1, none⟩ = false ∧ w.frozen? ⟨g, 2, none⟩ = false ∧ g < w.heap.size :=
  ⟨h.cell 0, h.cell 1, h.cell 2, h.free 0, h.free 1, h.free 2, h.lt⟩
theorem pen_fail (w : World) {g base most : Nat} {J : List UInt8} {a : Option Addr} {c : Nat} (h : PenAt w g base most J a c) (k : Int) :
    Calls Tryz.prog 164 #[.pointer (some ⟨g, 0, none⟩), .int .i64 k] w fun r w' => r = .returned (.tuple #[]) ∧ Blk w' g 276 #[.int .i64 most, .slice a J.length c, .int .i64 k] ∧ Tch (· = g) w w' := by
  have HC := hid (pen_code w h)
  have HB := hid h.blk
  have c2 : w.cell? ⟨g, 2, none⟩ = some (.int .i64 0) := h.blk.cell 2
  have f2 := h.blk.free 2
  have hgl := h.blk.lt
  clear h
  go_enter Tryz.func164, Tryz.ntmps164
  go_wp2_with fail
  refine HC.out.mono ?_
  rintro r w1 ⟨rfl, rfl⟩
  go_wp2
  first | go_end0 | refine bodyPost_ret (results_none rfl _ _ _) rfl ?_
  exact ⟨rfl, HB.out.set 2 _, Tch.setCell (F := (· = g)) (p := ⟨g, 2, none⟩) (Tch.refl _ _) (fun _ => rfl) _⟩

/-- A row that is its own, of bytes. -/
def OwnB (w : World) (base : Nat) (v : Value) (L : List UInt8) : Prop := w.ownsRow base 5 1 v L.length (byteCells L)
theorem byteCells_app3 (l l' : List UInt8) : byteCells l ++ byteCells l' = byteCells (l ++ l') := by simp [byteCells]
theorem OwnB.app {w : World} {base : Nat} {v : Value} {L D : List UInt8} (h : w.ownsRow base 5 1 v (L.length + D.length) (byteCells L ++ byteCells D)) : OwnB w base v (L ++ D) := by
  unfold OwnB
  rw [List.length_append, ← byteCells_app3]
  exact h


theorem OwnB.low {w : World} {b b' : Nat} {v : Value} {L : List UInt8} (h : OwnB w b v L) (hb : b' ≤ b) : OwnB w b' v L := by
  obtain ⟨h1, h2⟩ := h
  refine ⟨h1, ?_⟩
  rcases h2 with h2 | ⟨g, cap, cur, e1, e2, e3⟩
  · exact .inl h2
  · exact .inr ⟨g, cap, cur, e1, by omega, e3⟩
theorem OwnB.read {w : World} {b : Nat} {v : Value} {L : List UInt8} (h : OwnB w b v L) : rBytes.r (fun q => b ≤ q ∧ q < w.heap.size) w [v] L := own_bytes2 rfl h
theorem OwnB.form {w : World} {b : Nat} {v : Value} {L : List UInt8} (h : OwnB w b v L) : ∃ a c, v = .slice a L.length c := own_form h

set_option maxRecDepth 100000 in
set_option maxHeartbeats 1600000 in
theorem pen_bytes_own (w : World) {g base most : Nat} {J : List UInt8} {a : Option Addr} {c : Nat} (h : PenAt w g base most J a c) :
    Calls Tryz.prog 165 #[.pointer (some ⟨g, 0, none⟩)] w fun r w' => ∃ v, r = .returned (.tuple #[v, .int .i64 0]) ∧ OwnB w' w.heap.size v J ∧ Below w.heap.size w w' := by
  obtain ⟨i0, hi, hz0, hz1, hz2⟩ := info_parts info8
  have HC := hid (pen_code w h)
  have hB := own_bytes2 rfl h.own
  obtain ⟨_, hm, _, _⟩ := sl_len hB
  have HD := hid (rBytes.mono hB (S' := (· < w.heap.size)) fun q hq => hq.2)
  have HONE := hid (byteCells_one J)
  have c1 : w.cell? ⟨g, 1, none⟩ = some (.slice a J.length c) := h.blk.cell 1
  have hg1 := h.blk.lt
  have hle := h.le; have hmo := h.most; have hle14 := h.len
  clear h hB
  go_enter Tryz.func165, Tryz.ntmps165
  go_wp2_with fail
  refine HC.out.mono ?_
  rintro r w0 ⟨rfl, rfl⟩
  go_wp2_with (at_builtin; go_loud (refine wpList_append_src rfl _ _ _ rfl w.heap.size 5 i0 (.int .u8 0) 1 1 Tryz.underlying22 hi hz0 hz1 hz2 rfl (by decide) _ 0 [] rfl (own_empty _ (Nat.le_refl _) rfl) a J.length c (byteCells J) rfl (src_bytes (lift HD.out (by (repeat (first | exact Below.refl _ _ | assumption | (refine below_alloc ?_ _) | (refine Below.setCell ?_ (by first | omega | (simp; done) | (simp; omega)) _) | (refine Below.drew ?_) | (refine below_drewN ?_ _) | (refine below_then (by assumption) ?_)))))) HONE.out (by simp only [maxLen]; omega) (by omega) (by simp) ?_; intro v' w1 hown1 hgrow1 hat1; rw [Nat.zero_add, List.nil_append] at hown1; obtain ⟨a', c', rfl⟩ := own_form hown1; have HG := hid hgrow1; have HO := hid hown1; clear hgrow1 hown1 hat1))
  have hb1 : Below w.heap.size w w1 := Below.grown (by (repeat (first | exact Below.refl _ _ | assumption | (refine below_alloc ?_ _) | (refine Below.setCell ?_ (by first | omega | (simp; done) | (simp; omega)) _) | (refine Below.drew ?_) | (refine below_drewN ?_ _) | (refine below_then (by assumption) ?_)))) HG.out (by simp) (fun g e => by
    have e' : some w.heap.size = some g := e
    injection e' with e'
    omega)
  go_ret2
  exact ⟨_, rfl, HO.out, hb1⟩
end Go.Proofs.YtfddhafbhceoaaaGreat
namespace Go.Bs
open Go.RowKit
end Go.Bs
namespace Go.Proofs.YtfddhafbhceoaaaGreat
open Go.RowKit Go.Bs Go.Maps
set_option linter.unusedVariables false
set_option linter.unusedSimpArgs false

/-- A pen that was made in w1, with what it has written since. -/
def PenOk (w1 : World) (g most : Nat) (J : List UInt8) (w : World) : Prop := PenStep w1 g g most J none w
theorem PenOk.new {w : World} {g most : Nat} (h : PenAt w g g most [] none 0) : PenOk w g most [] w := PenStep.refl h
theorem PenOk.step {w1 w w' : World} {g most : Nat} {J J' : List UInt8} (h : PenOk w1 g most J w) (k : ∀ a c, PenAt w g g most J a c → PenStep w g g most J' a w') : PenOk w1 g most J' w' := by
  obtain ⟨a, c, h1, h2, h3⟩ := h
  exact PenStep.trans (J := J) h2 h3 (k a c h1)
theorem PenOk.at {w1 w : World} {g most : Nat} {J : List UInt8} (h : PenOk w1 g most J w) : ∃ a c, PenAt w g g most J a c ∧ (∀ {J' : List UInt8} {w' : World}, PenStep w g g most J' a w' → PenOk w1 g most J' w') ∧ (∀ q, q < w1.heap.size → q ≠ g → ¬ PenF g a q) := by
  obtain ⟨a, c, h1, h2, h3⟩ := h
  refine ⟨a, c, h1, fun k => PenStep.trans (J := J) h2 h3 k, fun q hq hn e => ?_⟩
  rw [penF_is] at e
  rcases e with e | e
  · exact hn e
  · rcases h3 with h3 | ⟨q', h3, h4⟩
    · rw [h3] at e; cases e
    · rw [h3] at e; have := Option.some.inj e; omega
theorem PenOk.later {w1 w w' : World} {g most : Nat} {J : List UInt8} (h : PenOk w1 g most J w) (hb : Below w.heap.size w w') : PenOk w1 g most J w' := by
  obtain ⟨a, c, h1, k, _⟩ := h.at
  exact k ⟨a, c, h1.later hb, Tch.of_later hb, .inl rfl⟩
theorem PenOk.tch {w1 w : World} {g most : Nat} {J : List UInt8} (h : PenOk w1 g most J w) : Tch (· = g) w1 w := by
  obtain ⟨a, c, h1, h2, h3⟩ := h
  refine h2.mono fun q _ e => ?_
  rw [penF_is] at e
  rcases e with e | e
  · exact e
  · cases e
theorem PenOk.blk {w1 w : World} {g most : Nat} {J : List UInt8} (h : PenOk w1 g most J w) {b : Nat} {t : TypeId} {cs : Array Value} (hB : Blk w1 b t cs) (hn : b ≠ g) : Blk w b t cs := hB.tch h.tch hn
theorem PenOk.below {w0 w1 w : World} {g most : Nat} {J : List UInt8} (h : PenOk w1 g most J w) (h0 : Below w0.heap.size w0 w1) (hg : w0.heap.size ≤ g) : Below w0.heap.size w0 w :=
  h0.trans (h.tch.to_below h0.size fun b _ e => by omega)

end Go.Proofs.YtfddhafbhceoaaaGreat
namespace Go.Bs
open Go.RowKit
end Go.Bs
namespace Go.Proofs.YtfddhafbhceoaaaGreat
open Go.RowKit Go.Bs Go.Maps
set_option linter.unusedVariables false
set_option linter.unusedSimpArgs false

/-- A payload's frame. -/
def frameB (p : List UInt8) : List UInt8 := blobB p ++ fixedB 4 (crcSum p)
theorem frameB_len (p : List UInt8) : (frameB p).length = (blobB p).length + 4 := by simp [frameB, fixedB_len]

theorem frame_size (n : Nat) (hn : n ≤ 100000000000000) (w : World) :
    Calls Tryz.prog 113 #[.int .i64 n] w fun r w' => r = .returned (.int .i64 ((varB n).length + n + 4 : Nat)) ∧ Below w.heap.size w w' := by
  have HS := hid (blob_size n hn w)
  have hl := varB_len n
  generalize (varB n).length = k at *
  go_enter Tryz.func113, Tryz.ntmps113
  go_wp2_with fail
  refine HS.out.mono ?_
  rintro r w1 ⟨rfl, hb1⟩
  go_wp2
  go_ret
  exact ⟨by first | rfl | simp, hb1⟩

set_option maxRecDepth 100000 in
set_option maxHeartbeats 1600000 in
theorem frame_put (w : World) {g base most : Nat} {J : List UInt8} {a : Option Addr} {c : Nat} (h : PenAt w g base most J a c) (D : List UInt8) (ad : Option Addr) (nd cd : Nat)
    (hD : rBytes.r (fun q => q < w.heap.size ∧ ¬ PenF g a q) w [.slice ad nd cd] D) (hm : D.length ≤ 2097152) (hfit : J.length + (frameB D).length ≤ most) (hlen : J.length + (frameB D).length ≤ 100000000000000) :
    Calls Tryz.prog 166 #[.pointer (some ⟨g, 0, none⟩), .slice ad nd cd] w fun r w' => r = .returned (.tuple #[]) ∧ PenStep w g base most (J ++ frameB D) a w' := by
  obtain ⟨rfl, _, _, _⟩ := sl_len hD
  rw [frameB_len] at hfit hlen
  have d1 : decide ((2097152 : Int) < (D.length : Int)) = false := decide_eq_false (by omega)
  have HB := hid (blob_put w h D ad _ cd hD (by omega) (by omega))
  have HC := hid (fun (W : World) h => crc_sum D ad D.length cd W h)
  have HL := crcSum_lt D
  have hb : Hid (frameB D = blobB D ++ fixedB 4 (crcSum D)) := hid rfl
  have HD := hid hD
  generalize frameB D = K at *
  generalize crcSum D = s at *
  generalize blobB D = E at *
  clear h hD
  go_enter Tryz.func166, Tryz.ntmps166
  go_wp2_with fail
  refine HB.out.mono ?_
  rintro r w3 ⟨rfl, a3, c3, p3, t3, h3⟩
  have hs3 := t3.size
  have HD3 := hid (rBytes.keep HD.out fun q hq => t3.block q hq.1 hq.2)
  have HST := hid (fun (J' : List UInt8) (W : World) (k : PenStep w3 g base most J' a3 W) => PenStep.trans (J := J ++ E) t3 h3 k)
  have P3 := hid p3
  clear p3 t3 h3
  go_wp2_with fail
  refine (HC.out w3 (rBytes.mono HD3.out fun q hq => by have := hq.1; omega)).mono ?_
  rintro r w4 ⟨rfl, hb4⟩
  have e1 : (s : Int) % 18446744073709551616 = s := by omega
  go_wp2_with fail
  refine (pen_wfixed w4 (P3.out.later hb4) s (by omega) 4 (by omega) (by simp; omega) (by simp; omega)).mono ?_
  rintro r w5 ⟨rfl, hs5⟩
  have hst := HST.out _ _ (PenStep.later hb4 hs5)
  rw [List.append_assoc, ← hb.out] at hst
  have HST2 := hid hst
  clear hst hs5
  go_wp2
  first | go_end0 | refine bodyPost_ret (results_none rfl _ _ _) rfl ?_
  exact ⟨rfl, HST2.out⟩

set_option maxRecDepth 100000 in
set_option maxHeartbeats 1600000 in
theorem frame_bytes (w : World) (D : List UInt8) (ad : Option Addr) (nd cd : Nat) (hD : rBytes.r (· < w.heap.size) w [.slice ad nd cd] D) (hm : D.length ≤ 2097152) :
    Calls Tryz.prog 100 #[.slice ad nd cd] w fun r w' => ∃ x, r = .returned (.tuple #[x, .int .i64 0]) ∧ OwnB w' w.heap.size x (frameB D) ∧ Below w.heap.size w w' := by
  obtain ⟨rfl, _, _, _⟩ := sl_len hD
  have HS := hid (frame_size D.length (by omega) w)
  have hvl := varB_len D.length
  have hl : (frameB D).length = (varB D.length).length + D.length + 4 := by rw [frameB_len, blobB_len]
  have HN := hid (fun W : World => pen_new W ((varB D.length).length + D.length + 4) (by omega))
  have HP := hid (fun (W : World) (g : Nat) (h : PenAt W g g ((varB D.length).length + D.length + 4) [] none 0) (h1 : rBytes.r (fun q => q < W.heap.size ∧ ¬ PenF g none q) W [.slice ad D.length cd] D) => frame_put W h D ad _ cd h1 hm (by simp; omega) (by simp; omega))
  have HD := hid hD
  generalize frameB D = K at *
  generalize (varB D.length).length + D.length + 4 = M at *
  clear hD
  go_enter Tryz.func100, Tryz.ntmps100
  go_wp2_with fail
  refine HS.out.mono ?_
  rintro r w1 ⟨rfl, hb1⟩
  go_wp2_with fail
  refine (HN.out w1).mono ?_
  rintro r w2 ⟨rfl, hp2, hb2⟩
  have hbw2 : Below w.heap.size w w2 := below_then hb2 hb1
  have hz1 := hb1.size
  have hz2 := hb2.size
  have HQ := hid (HP.out w2 _ hp2 (rBytes.mono (rBytes.keep HD.out fun q hq => hbw2.block q hq) fun q hq => ⟨by omega, by rw [penF_is]; rintro (e | e); omega; cases e⟩))
  clear hp2
  go_wp2_with fail
  refine HQ.out.mono ?_
  rintro r w3 ⟨rfl, hs3⟩
  have K3 : Hid (PenOk w2 w1.heap.size M K w3) := hid hs3
  clear hs3 HQ
  go_wp2_with fail
  obtain ⟨a7, b7, p7, k7, _⟩ := K3.out.at
  refine (pen_bytes_own w3 p7).mono ?_
  rintro r w8 ⟨x, rfl, hr, hb8⟩
  have hbw := K3.out.below hbw2 (by omega)
  have HR := hid hr
  clear hr k7 p7
  go_wp2
  go_ret2
  exact ⟨_, rfl, HR.out.low hbw.size, below_then hb8 hbw⟩

/-- A number of fixed bytes, the least first. -/
def fixN : List UInt8 → Nat
  | [] => 0
  | b :: l => b.toNat + 256 * fixN l
theorem fixN_lt : ∀ l : List UInt8, fixN l < 256 ^ l.length
  | [] => by decide
  | b :: l => by
    have h1 := fixN_lt l
    have h2 := b.toNat_lt
    simp only [fixN, List.length_cons, Nat.pow_succ]
    omega
theorem fixN_snoc : ∀ (l : List UInt8) (b : UInt8), fixN (l ++ [b]) = fixN l + b.toNat * 256 ^ l.length
  | [], b => by simp [fixN]
  | x :: l, b => by
    simp only [List.cons_append, fixN, List.length_cons, fixN_snoc l b, Nat.pow_succ, Nat.mul_add, Nat.add_assoc]
    congr 1
    congr 1
    rw [Nat.mul_comm 256, Nat.mul_assoc]
theorem fixN_fixedB : ∀ (n x : Nat), fixN (fixedB n x) = x % 256 ^ n
  | 0, x => by simp [fixedB, fixN, Nat.mod_one]
  | n + 1, x => by
    have h : (UInt8.ofNat (x % 256)).toNat = x % 256 := by rw [UInt8.toNat_ofNat']; omega
    simp only [fixedB, fixN, h, fixN_fixedB n (x / 256)]
    rw [Nat.pow_succ, Nat.mul_comm (256 ^ n) 256, Nat.mod_mul]
theorem or_byte {i X c : Nat} (hX : X < 256 ^ i) (hi : i ≤ 7) (hc : c < 256) : bits .or .u64 (X : Int) (IntKind.u64.wrap ((c : Int) * 2 ^ (8 * i))) = ((X + c * 256 ^ i : Nat) : Int) := by
  have h1 : (256 : Nat) ^ i = 2 ^ (8 * i) := by rw [Nat.pow_mul]
  have h2 : (256 : Nat) ^ i ≤ 256 ^ 7 := Nat.pow_le_pow_right (by decide) hi
  have h3 : (256 : Nat) ^ 7 = 72057594037927936 := by decide
  have h4 : c * 256 ^ i ≤ 255 * 256 ^ i := Nat.mul_le_mul_right _ (by omega)
  have e : (c : Int) * 2 ^ (8 * i) = ((c * 256 ^ i : Nat) : Int) := by
    rw [h1]
    simp
  rw [e, IntKind.wrap_u64, Int.emod_eq_of_lt (by omega) (by omega), bits_or_u64_nat _ _ (by omega) (by omega)]
  rw [h1] at hX ⊢
  rw [Nat.or_comm, ← Nat.shiftLeft_eq, ← Nat.shiftLeft_add_eq_or_of_lt hX, Nat.add_comm]

set_option maxRecDepth 100000 in
set_option maxHeartbeats 1600000 in
theorem blob_readfixed (w : World) {g : Nat} {B : List UInt8} {a : Option Addr} {s : Rs} (h : RdAt w g B a s) (hB : B.length ≤ 1000000000) (n : Nat) (hn : n ≤ 8) :
    Calls Tryz.prog 191 #[.pointer (some ⟨g, 0, none⟩), .int .i64 (n : Int)] w fun r w' => r = .returned (.int .u64 (fixN (s.take B n).2 : Nat)) ∧ RdStep w g B a (s.take B n).1 w' := by
  have HT := hid (rd_take w h (n : Int) (by omega) (by omega))
  have hlen : (s.take B n).2.length ≤ n := by
    unfold Rs.take
    split
    · simp; omega
    · simp
  have hlt := h.blk.lt
  generalize s.take B (n : Int) = T at *
  obtain ⟨s1, L⟩ := T
  dsimp only at *
  have n0 : (0 : Int) ≤ (n : Int) := by omega
  have n8 : (n : Int) ≤ 8 := by omega
  clear h
  go_enter Tryz.func191, Tryz.ntmps191
  go_wp2_with fail
  refine HT.out.mono ?_
  rintro r w1 ⟨v, rfl, hv, hst⟩
  obtain ⟨a1, c1, hfv, hv2, _⟩ := sl_form hv
  simp only [List.cons.injEq, and_true] at hfv
  subst hfv
  have HV := hid hv2
  have HST := hid hst
  clear hv hv2 hst
  go_wp2_with fail
  go_loopw [5, 14] (fun x i wr => ∃ j : Nat, j ≤ L.length ∧ i = .int .i64 j ∧ x = .int .u64 ((fixN (L.take j) : Nat) : Int) ∧ w1 = wr) (fun _ i _ => L.length - (intOf i).toNat)
  case atStart => exact ⟨0, Nat.zero_le _, rfl, rfl, rfl⟩
  case round =>
    obtain ⟨j, hj, rfl, rfl, rfl⟩ := hrel
    by_cases hlt2 : j < L.length
    · have d1 : decide ((j : Int) < (L.length : Int)) = true := decide_eq_true (by omega)
      have i1 : (j : Int) < (L.length : Int) := by omega
      obtain ⟨b, o, rfl, _, hc⟩ := byte_at HV.out hlt2
      have hff := hid (show fixN (L.take (j + 1)) = fixN (L.take j) + L[j].toNat * 256 ^ j by
        rw [List.take_succ_eq_append_getElem hlt2, fixN_snoc]
        congr 3
        simp
        omega)
      have hX : fixN (L.take j) < 256 ^ j := by
        have := fixN_lt (L.take j)
        rwa [List.length_take, Nat.min_eq_left hj] at this
      have hb := L[j].toNat_lt
      have E := hid (or_byte (c := L[j].toNat) hX (by omega) (by omega))
      have hXb : fixN (L.take j) < 18446744073709551616 := Nat.lt_of_lt_of_le hX (Nat.le_trans (Nat.pow_le_pow_right (by decide) (show j ≤ 7 by omega)) (by decide))
      generalize L[j].toNat = y at *
      generalize fixN (L.take j) = X at *
      clear hX
      have m0 : (0 : Int) ≤ 8 * (j : Int) := by omega
      have m1 : 8 * (j : Int) ≤ 64 := by omega
      go_wp2_with fail
      go_roundw
      case rel => exact ⟨j + 1, by omega, by go_num, by rw [E.out, hff.out], by trivial⟩
      case measure => (simp [intOf]; try omega)
    · obtain rfl : j = L.length := by omega
      have d1 : decide ((L.length : Int) < (L.length : Int)) = false := decide_eq_false (by omega)
      rw [List.take_length]
      go_wp2_with fail
      go_ret
      exact ⟨rfl, HST.out⟩
theorem frame_bound (m : Int) (w : World) : Calls Tryz.prog 111 #[.int .i64 m] w fun r w' => r = .returned (.int .i64 (min m 2097152)) ∧ w = w' := by
  by_cases h : m ≤ 2097152
  · have e : min m 2097152 = m := by omega
    rw [e]
    clear e
    go_enter Tryz.func111, Tryz.ntmps111
    go_wp2_with fail
    go_ret
    exact ⟨rfl, rfl⟩
  · have e : min m 2097152 = 2097152 := by omega
    have h' : 2097152 < m := by omega
    rw [e]
    clear e
    go_enter Tryz.func111, Tryz.ntmps111
    go_wp2_with fail
    go_ret
    exact ⟨rfl, rfl⟩
set_option maxRecDepth 100000 in
set_option maxHeartbeats 1600000 in
theorem frame_checked {w : World} {g : Nat} {B : List UInt8} {a : Option Addr} {s : Rs} (h : RdAt w g B a s) (D : List UInt8) (ad : Option Addr) (cd : Nat) (hD : rBytes.r (· < w.heap.size) w [.slice ad D.length cd] D) (v : Nat) (p : Int) :
    Calls Tryz.prog 306 #[.slice ad D.length cd, .int .u64 (v : Int), .func (Fn.func 124) #[.pointer (some ⟨g, 0, none⟩)] #[], .int .i64 p] w fun r w' => r = .returned (.tuple #[]) ∧ RdStep w g B a (if crcSum D = v then s else s.fail 6 p) w' := by
  have HC := hid (crc_sum D ad _ cd w hD)
  have hlt := crcSum_lt D
  have HH := hid h
  clear h hD
  generalize crcSum D = q at *
  by_cases hq : q = v
  · rw [if_pos hq]
    subst hq
    have d1 : ((q : Int) != (q : Int)) = false := by simp
    go_enter Tryz.func306, Tryz.ntmps306
    go_wp2_with fail
    refine HC.out.mono ?_
    rintro r w1 ⟨rfl, hb⟩
    have HST := hid (RdStep.later HH.out hb)
    clear hb
    go_wp2_with fail
    first | go_end0 | refine bodyPost_ret (results_none rfl _ _ _) rfl ?_
    exact ⟨rfl, HST.out⟩
  · rw [if_neg hq]
    have d1 : ((q : Int) != (v : Int)) = true := by simp; omega
    clear hq
    go_enter Tryz.func306, Tryz.ntmps306
    go_wp2_with fail
    refine HC.out.mono ?_
    rintro r w1 ⟨rfl, hb⟩
    have HST := hid (RdStep.later HH.out hb)
    have HF := hid (rd_fail w1 HST.out.1 6 p (by omega))
    clear hb
    go_wp2_with fail
    refine HF.out.mono ?_
    rintro r w2 ⟨rfl, hst⟩
    have HS2 := hid (RdStep.trans HST.out.2 hst)
    clear hst
    go_wp2_with fail
    first | go_end0 | refine bodyPost_ret (results_none rfl _ _ _) rfl ?_
    exact ⟨rfl, HS2.out⟩
/-- A frame, read. -/
def Rs.frame (B : List UInt8) (s : Rs) (m : Int) : Rs × List UInt8 :=
  let b := s.blob B (min m 2097152)
  let f := b.1.take B 4
  let r := if crcSum b.2 = fixN f.2 then f.1 else f.1.fail 6 b.1.p
  (r, if r.k = 0 then b.2 else [])
set_option maxRecDepth 100000 in
set_option maxHeartbeats 1600000 in
theorem frame_read (w : World) {g : Nat} {B : List UInt8} {a : Option Addr} {s : Rs} (h : RdAt w g B a s) (hB : B.length ≤ 1000000000) (m : Int) (hm : -9223372036854775808 ≤ m ∧ m ≤ 9223372036854775807) :
    Calls Tryz.prog 246 #[.pointer (some ⟨g, 0, none⟩), .int .i64 m] w fun r w' => ∃ v, r = .returned v ∧ rBytes.r (fun q => w.heap.size ≤ q ∧ q < w'.heap.size) w' [v] (s.frame B m).2 ∧ RdStep w g B a (s.frame B m).1 w' := by
  have hlt := h.blk.lt
  have HBD := hid (frame_bound m w)
  have HBL := hid (blob_read w h (by omega) (min m 2097152) (by omega))
  unfold Rs.frame
  dsimp only
  generalize s.blob B (min m 2097152) = P at *
  obtain ⟨s1, D⟩ := P
  dsimp only at *
  have HFX := hid (fun (W : World) (hW : RdAt W g B a s1) => (by have := blob_readfixed W hW hB 4 (by omega); exact this : Calls Tryz.prog 191 #[.pointer (some ⟨g, 0, none⟩), .int .i64 4] W fun r w' => r = .returned (.int .u64 ((fixN (s1.take B 4).2 : Nat) : Int)) ∧ RdStep W g B a (s1.take B 4).1 w'))
  have HAT := hid (fun (W : World) (hW : RdAt W g B a s1) => rd_at W hW)
  generalize s1.take B 4 = T at *
  obtain ⟨s2, F⟩ := T
  dsimp only at *
  generalize fixN F = v at *
  have HCK := hid (fun (W : World) (hW : RdAt W g B a s2) (ad : Option Addr) (cd : Nat) (hD : rBytes.r (· < W.heap.size) W [.slice ad D.length cd] D) => frame_checked hW D ad cd hD v (s1.p : Int))
  generalize (if crcSum D = v then s2 else s2.fail 6 (s1.p : Int)) = s3 at *
  generalize hRS : (if s3.k = 0 then D else []) = RES
  have HRS := hid hRS
  generalize min m 2097152 = mm at *
  clear h hRS
  by_cases hk : s3.k = 0
  · have HG := hid (fun (V : World) (hV : RdAt V g B a s3) => (by have := rd_good V hV; rw [decide_eq_true hk] at this; exact this : Calls Tryz.prog 112 #[.pointer (some ⟨g, 0, none⟩)] V fun r w' => r = .returned (.bool true) ∧ Below V.heap.size V w'))
    have HR2 : Hid (RES = D) := hid (by rw [← HRS.out]; exact if_pos hk)
    clear hk
    go_enter Tryz.func246, Tryz.ntmps246
    go_wp2_with fail
    refine HBD.out.mono ?_
    rintro r w0 ⟨rfl, rfl⟩
    go_wp2_with fail
    refine HBL.out.mono ?_
    rintro r w1 ⟨v1, rfl, hv1, hst1⟩
    obtain ⟨ad, cd, hfv, hv2, _⟩ := sl_form hv1
    simp only [List.cons.injEq, and_true] at hfv
    subst hfv
    have HV1 := hid hv2
    have HS1 := hid hst1
    have hz1 := hst1.2.size
    clear hv1 hv2 hst1
    go_wp2_with fail
    refine (HAT.out w1 HS1.out.1).mono ?_
    rintro r w1' ⟨rfl, rfl⟩
    go_wp2_with fail
    refine (HFX.out w1 HS1.out.1).mono ?_
    rintro r w3 ⟨rfl, hst3⟩
    have HV3 := hid (rBytes.mono (rBytes.keep HV1.out (w' := w3) fun q hq => hst3.2.block q hq.2 (by have := hq.1; omega)) (S' := fun q => w.heap.size ≤ q ∧ q < w3.heap.size) fun q hq => ⟨hq.1, Nat.lt_of_lt_of_le hq.2 hst3.2.size⟩)
    have HS3 := hid (RdStep.trans HS1.out.2 hst3)
    clear hst3
    go_wp2_with fail
    refine (HCK.out w3 HS3.out.1 ad cd (rBytes.mono HV3.out fun q hq => hq.2)).mono ?_
    rintro r w4 ⟨rfl, hst4⟩
    have HV4 := hid (rBytes.mono (rBytes.keep HV3.out (w' := w4) fun q hq => hst4.2.block q hq.2 (by have := hq.1; omega)) (S' := fun q => w.heap.size ≤ q ∧ q < w4.heap.size) fun q hq => ⟨hq.1, Nat.lt_of_lt_of_le hq.2 hst4.2.size⟩)
    have HS4 := hid (RdStep.trans HS3.out.2 hst4)
    clear hst4
    go_wp2_with fail
    refine (HG.out w4 HS4.out.1).mono ?_
    rintro r w5 ⟨rfl, hb5⟩
    have HSE := hid (HS4.out.then hb5)
    have HVF := hid (show rBytes.r (fun q => w.heap.size ≤ q ∧ q < w5.heap.size) w5 [.slice ad D.length cd] D from rBytes.mono (rBytes.keep HV4.out fun q hq => hb5.block q hq.2) fun q hq => ⟨hq.1, Nat.lt_of_lt_of_le hq.2 hb5.size⟩)
    clear hb5
    go_wp2_with fail
    go_ret
    rw [HR2.out]
    exact ⟨_, rfl, HVF.out, HSE.out⟩
  · have HG := hid (fun (V : World) (hV : RdAt V g B a s3) => (by have := rd_good V hV; rw [decide_eq_false hk] at this; exact this : Calls Tryz.prog 112 #[.pointer (some ⟨g, 0, none⟩)] V fun r w' => r = .returned (.bool false) ∧ Below V.heap.size V w'))
    have HR2 : Hid (RES = []) := hid (by rw [← HRS.out]; exact if_neg hk)
    clear hk
    go_enter Tryz.func246, Tryz.ntmps246
    go_wp2_with fail
    refine HBD.out.mono ?_
    rintro r w0 ⟨rfl, rfl⟩
    go_wp2_with fail
    refine HBL.out.mono ?_
    rintro r w1 ⟨v1, rfl, hv1, hst1⟩
    obtain ⟨ad, cd, hfv, hv2, _⟩ := sl_form hv1
    simp only [List.cons.injEq, and_true] at hfv
    subst hfv
    have HV1 := hid hv2
    have HS1 := hid hst1
    have hz1 := hst1.2.size
    clear hv1 hv2 hst1
    go_wp2_with fail
    refine (HAT.out w1 HS1.out.1).mono ?_
    rintro r w1' ⟨rfl, rfl⟩
    go_wp2_with fail
    refine (HFX.out w1 HS1.out.1).mono ?_
    rintro r w3 ⟨rfl, hst3⟩
    have HV3 := hid (rBytes.mono (rBytes.keep HV1.out (w' := w3) fun q hq => hst3.2.block q hq.2 (by have := hq.1; omega)) (S' := fun q => w.heap.size ≤ q ∧ q < w3.heap.size) fun q hq => ⟨hq.1, Nat.lt_of_lt_of_le hq.2 hst3.2.size⟩)
    have HS3 := hid (RdStep.trans HS1.out.2 hst3)
    clear hst3
    go_wp2_with fail
    refine (HCK.out w3 HS3.out.1 ad cd (rBytes.mono HV3.out fun q hq => hq.2)).mono ?_
    rintro r w4 ⟨rfl, hst4⟩
    have HV4 := hid (rBytes.mono (rBytes.keep HV3.out (w' := w4) fun q hq => hst4.2.block q hq.2 (by have := hq.1; omega)) (S' := fun q => w.heap.size ≤ q ∧ q < w4.heap.size) fun q hq => ⟨hq.1, Nat.lt_of_lt_of_le hq.2 hst4.2.size⟩)
    have HS4 := hid (RdStep.trans HS3.out.2 hst4)
    clear hst4
    go_wp2_with fail
    refine (HG.out w4 HS4.out.1).mono ?_
    rintro r w5 ⟨rfl, hb5⟩
    have HSE := hid (HS4.out.then hb5)
    clear hb5
    go_wp2_with fail
    go_ret
    rw [HR2.out]
    exact ⟨_, rfl, rSl_mk (xs := []) rfl (Nat.le_refl _) (Nat.zero_le _) (.inl rfl), HSE.out⟩

set_option maxRecDepth 100000 in
set_option maxHeartbeats 3200000 in
theorem frame_get (w : World) (B : List UInt8) (a : Option Addr) (n c : Nat) (hl : rBytes.r (· < w.heap.size) w [.slice a n c] B) (hB : B.length ≤ 1000000000) (most : Int) (hm : -9223372036854775808 ≤ most ∧ most ≤ 9223372036854775807) :
    Calls Tryz.prog 176 #[.slice a n c, .int .i64 most] w fun r w' => ∃ v, r = .returned (.tuple #[v, .int .i64 ((getR (((⟨0, 0, 0⟩ : Rs).frame B most))).2.1 : Int), .agg #[.int .i64 (getR (((⟨0, 0, 0⟩ : Rs).frame B most))).2.2.1, .int .i64 (getR (((⟨0, 0, 0⟩ : Rs).frame B most))).2.2.2]]) ∧ rBytes.r (fun q => w.heap.size ≤ q ∧ q < w'.heap.size) w' [v] (getR (((⟨0, 0, 0⟩ : Rs).frame B most))).1 ∧ Below w.heap.size w w' := by
  obtain ⟨rfl, hmx, hcc, hcm⟩ := sl_len hl
  have HN := hid (rd_new (w.alloc (.cells #[.int .i64 0, .int .i64 0] 65)) B a _ c (lift hl (by (repeat (first | with_reducible exact Below.refl _ _ | with_reducible assumption | (with_reducible refine below_alloc ?_ _) | (with_reducible refine Below.setCell ?_ (by first | omega | (simp; done) | (simp; omega)) _) | (with_reducible refine Below.drew ?_) | (with_reducible refine below_drewN ?_ _) | (refine below_then (by with_reducible assumption) ?_))))))
  have hLS := hid (fun (W : World) (h : RdAt W (w.heap.size + 1) B a ⟨0, 0, 0⟩) => frame_read W h hB most hm)
  unfold getR
  generalize ((⟨0, 0, 0⟩ : Rs).frame B most) = L at *
  obtain ⟨s1, D⟩ := L
  dsimp only at *
  clear hl
  by_cases hk : s1.k = 0
  · rw [if_pos hk]
    have d1 : decide (s1.k = 0) = true := decide_eq_true hk
    clear hk
    dsimp only
    go_enter Tryz.func176, Tryz.ntmps176
    go_wp2_with fail
    refine HN.out.mono ?_
    rintro r w1 ⟨rfl, hrd, hb1⟩
    have F1 : Blk w1 w.heap.size 65 #[.int .i64 0, .int .i64 0] := Blk.later (by (repeat (first | assumption | exact Blk.newAt _ _ _ (by first | (simp; done) | (simp; omega)) | refine Blk.alloc ?_ _ | refine Blk.drew ?_ | refine Blk.drewN ?_ _ | refine Blk.far ?_ (by first | (simp; done) | (simp; omega)) _))) hb1
    have hbw1 : Below w.heap.size w w1 := by (repeat (first | with_reducible exact Below.refl _ _ | with_reducible assumption | (with_reducible refine below_alloc ?_ _) | (with_reducible refine Below.setCell ?_ (by first | omega | (simp; done) | (simp; omega)) _) | (with_reducible refine Below.drew ?_) | (with_reducible refine below_drewN ?_ _) | (refine below_then (by with_reducible assumption) ?_)))
    have hgl := hrd.blk.lt
    simp at hrd hgl
    have HRD := hid hrd
    have HLS := hid (hLS.out w1 hrd)
    clear hrd hb1
    go_wp2_with fail
    refine HLS.out.mono ?_
    rintro r w2 ⟨v, rfl, hr, hst⟩

    obtain ⟨aD, cD, hv, hr2, _⟩ := sl_form hr
    simp only [List.cons.injEq, and_true] at hv
    subst hv

    have HST := hid hst
    have HR := hid hr2
    have hs2 := hst.size
    have F2 := F1.tch hst.2 (by omega)
    have hbw2 : Below w.heap.size w w2 := hbw1.trans (hst.below (by omega) (by omega))
    have HFA := hid (rd_fault w2 hst.1)
    clear hr hr2 hst F1
    go_wp2_with fail
    refine HFA.out.mono ?_
    rintro r w3 ⟨rfl, hb3⟩
    have F3 := F2.later hb3
    have hG := fault_good (w3.alloc (.cells #[.int .i64 s1.k, .int .i64 s1.f] 65)) s1.k s1.f
    rw [d1] at hG
    have HG := hid hG
    have hbw3 := below_then hb3 hbw2
    clear hG d1
    go_wp2_with fail
    refine HG.out.mono ?_
    rintro r w4 ⟨rfl, hb4⟩
    have F4 := (F3.alloc _).later hb4
    obtain ⟨y0, y1, g0, g1, l1⟩ := f_blk F4
    have hb24 : Below w2.heap.size w2 w4 := by (repeat (first | with_reducible exact Below.refl _ _ | with_reducible assumption | (with_reducible refine below_alloc ?_ _) | (with_reducible refine Below.setCell ?_ (by first | omega | (simp; done) | (simp; omega)) _) | (with_reducible refine Below.drew ?_) | (with_reducible refine below_drewN ?_ _) | (refine below_then (by with_reducible assumption) ?_)))
    have hbw4 := below_then hb24 hbw2
    have HST4 := hid (HST.out.then hb24)
    have hs4 := hb24.size

    have HAT := hid (rd_at w4 HST4.out.1)
    have HRK := hid (rBytes.mono (S' := fun q => w.heap.size + 1 < q ∧ q < w4.heap.size) (rBytes.keep HR.out fun q hq => hb24.block q hq.2) fun q hq => ⟨by omega, by omega⟩)
    clear F2 F3 F4
    go_wp2_with fail
    refine HAT.out.mono ?_
    rintro r w4' ⟨rfl, rfl⟩
    go_wp2
    refine bodyPost_ret (v := .tuple #[.slice aD D.length cD, .int .i64 (s1.p : Int), .agg #[.int .i64 0, .int .i64 0]]) (by simp [results, Tryz.results176, go_sem, y0, y1, l1]) rfl ⟨_, rfl, ?_, by (repeat (first | with_reducible exact Below.refl _ _ | with_reducible assumption | (with_reducible refine below_alloc ?_ _) | (with_reducible refine Below.setCell ?_ (by first | omega | (simp; done) | (simp; omega)) _) | (with_reducible refine Below.drew ?_) | (with_reducible refine below_drewN ?_ _) | (refine below_then (by with_reducible assumption) ?_)))⟩
    refine rBytes.mono (rBytes.keep HRK.out fun q hq => ?_) fun q hq => ⟨by omega, by simp [World.setCell]; exact hq.2⟩
    repeat (rw [Below.heap_setCell _ _ _ _ (by dsimp only; omega)])
  · rw [if_neg hk]
    have d1 : decide (s1.k = 0) = false := decide_eq_false hk
    clear hk
    dsimp only
    go_enter Tryz.func176, Tryz.ntmps176
    go_wp2_with fail
    refine HN.out.mono ?_
    rintro r w1 ⟨rfl, hrd, hb1⟩
    have F1 : Blk w1 w.heap.size 65 #[.int .i64 0, .int .i64 0] := Blk.later (by (repeat (first | assumption | exact Blk.newAt _ _ _ (by first | (simp; done) | (simp; omega)) | refine Blk.alloc ?_ _ | refine Blk.drew ?_ | refine Blk.drewN ?_ _ | refine Blk.far ?_ (by first | (simp; done) | (simp; omega)) _))) hb1
    have hbw1 : Below w.heap.size w w1 := by (repeat (first | with_reducible exact Below.refl _ _ | with_reducible assumption | (with_reducible refine below_alloc ?_ _) | (with_reducible refine Below.setCell ?_ (by first | omega | (simp; done) | (simp; omega)) _) | (with_reducible refine Below.drew ?_) | (with_reducible refine below_drewN ?_ _) | (refine below_then (by with_reducible assumption) ?_)))
    have hgl := hrd.blk.lt
    simp at hrd hgl
    have HRD := hid hrd
    have HLS := hid (hLS.out w1 hrd)
    clear hrd hb1
    go_wp2_with fail
    refine HLS.out.mono ?_
    rintro r w2 ⟨v, rfl, hr, hst⟩

    obtain ⟨aD, cD, hv, hr2, _⟩ := sl_form hr
    simp only [List.cons.injEq, and_true] at hv
    subst hv

    have HST := hid hst
    have HR := hid hr2
    have hs2 := hst.size
    have F2 := F1.tch hst.2 (by omega)
    have hbw2 : Below w.heap.size w w2 := hbw1.trans (hst.below (by omega) (by omega))
    have HFA := hid (rd_fault w2 hst.1)
    clear hr hr2 hst F1
    go_wp2_with fail
    refine HFA.out.mono ?_
    rintro r w3 ⟨rfl, hb3⟩
    have F3 := F2.later hb3
    have hG := fault_good (w3.alloc (.cells #[.int .i64 s1.k, .int .i64 s1.f] 65)) s1.k s1.f
    rw [d1] at hG
    have HG := hid hG
    have hbw3 := below_then hb3 hbw2
    clear hG d1
    go_wp2_with fail
    refine HG.out.mono ?_
    rintro r w4 ⟨rfl, hb4⟩
    have F4 := (F3.alloc _).later hb4
    obtain ⟨y0, y1, g0, g1, l1⟩ := f_blk F4
    have hb24 : Below w2.heap.size w2 w4 := by (repeat (first | with_reducible exact Below.refl _ _ | with_reducible assumption | (with_reducible refine below_alloc ?_ _) | (with_reducible refine Below.setCell ?_ (by first | omega | (simp; done) | (simp; omega)) _) | (with_reducible refine Below.drew ?_) | (with_reducible refine below_drewN ?_ _) | (refine below_then (by with_reducible assumption) ?_)))
    have hbw4 := below_then hb24 hbw2
    have HST4 := hid (HST.out.then hb24)
    have hs4 := hb24.size

    obtain ⟨z0, z1, e0, e1, l2⟩ := f_blk (Blk.later (Blk.newAt w3 _ _ rfl) hb4)
    clear F2 F3 F4
    go_wp2_with fail
    go_region
    all_goals
      go_wp2
      refine bodyPost_ret (v := .tuple #[.slice none 0 0, .int .i64 0, .agg #[.int .i64 s1.k, .int .i64 s1.f]]) (by simp [results, Tryz.results176, go_sem, y0, y1, l1]) rfl ⟨_, rfl, empty_bytes rfl rfl (by omega), by (repeat (first | with_reducible exact Below.refl _ _ | with_reducible assumption | (with_reducible refine below_alloc ?_ _) | (with_reducible refine Below.setCell ?_ (by first | omega | (simp; done) | (simp; omega)) _) | (with_reducible refine Below.drew ?_) | (with_reducible refine below_drewN ?_ _) | (refine below_then (by with_reducible assumption) ?_)))⟩


theorem vget_varF (rest : List UInt8) : ∀ (f i x y : Nat), f + i = 9 → (0 < i → 0 < x) → x * 128 ^ i < 18446744073709551616 → vget i y (varF f x ++ rest) = (y + x * 128 ^ i, i + (varF f x).length, 0)
  | 0, i, x, y, h, hp, hx => by
    obtain rfl : i = 9 := by omega
    have hx2 : x < 2 := by omega
    have ht : (UInt8.ofNat x).toNat = x := by simp; omega
    have := hp (by omega)
    simp only [varF, List.cons_append, List.nil_append, List.length_cons, List.length_nil]
    unfold vget
    rw [ht, if_neg (by omega), if_neg (by omega), if_pos (by omega)]
  | f + 1, i, x, y, h, hp, hx => by
    simp only [varF]
    by_cases h128 : x < 128
    · rw [if_pos h128]
      have ht : (UInt8.ofNat x).toNat = x := by simp; omega
      simp only [List.cons_append, List.nil_append, List.length_cons, List.length_nil]
      unfold vget
      rw [ht, if_neg (by omega), if_neg (by omega), if_pos (by omega)]
    · rw [if_neg h128]
      have ht : (UInt8.ofNat (128 + x % 128)).toNat = 128 + x % 128 := by simp; omega
      simp only [List.cons_append, List.length_cons]
      unfold vget
      rw [ht, if_neg (by omega), if_neg (by omega), if_neg (by omega)]
      have hdm : x = 128 * (x / 128) + x % 128 := (Nat.div_add_mod x 128).symm
      have he : x / 128 * 128 ^ (i + 1) + x % 128 * 128 ^ i = x * 128 ^ i := by
        rw [Nat.pow_succ]
        generalize 128 ^ i = k
        conv => rhs; rw [hdm]
        rw [Nat.add_mul, Nat.mul_comm k 128, ← Nat.mul_assoc, Nat.mul_comm 128]
      rw [vget_varF rest f (i + 1) (x / 128) _ (by omega) (fun _ => by omega) (by omega)]
      refine Prod.ext ?_ (Prod.ext ?_ rfl)
      · dsimp only
        rw [show (128 + x % 128) % 128 = x % 128 by omega]
        omega
      · dsimp only; omega
theorem vget_varB (x : Nat) (rest : List UInt8) (hx : x < 18446744073709551616) : vget 0 0 (varB x ++ rest) = (x, (varB x).length, 0) := by
  have := vget_varF rest 9 0 x 0 rfl (fun h => by omega) (by simpa using hx)
  unfold varB
  rw [this]; simp
theorem Rs.num_varB {B rest : List UInt8} {p x : Nat} (hx : x < 18446744073709551616) (h : B.drop p = varB x ++ rest) : (⟨p, 0, 0⟩ : Rs).num B = (⟨p + (varB x).length, 0, 0⟩, x) := by
  unfold Rs.num
  rw [if_pos rfl]
  dsimp only
  rw [h, vget_varB x rest hx]
  rfl
theorem drop_more {B D rest : List UInt8} {p : Nat} (h : B.drop p = D ++ rest) : B.drop (p + D.length) = rest := by
  rw [← List.drop_drop, h]; simp
theorem drop_room {B D rest : List UInt8} {p : Nat} (h : B.drop p = D ++ rest) (hp : p ≤ B.length) : p + D.length + rest.length = B.length := by
  have := congrArg List.length h
  simp at this
  omega
theorem Rs.take_pre {B D rest : List UInt8} {p : Nat} (h : B.drop p = D ++ rest) (hp : p ≤ B.length) : (⟨p, 0, 0⟩ : Rs).take B (D.length : Int) = (⟨p + D.length, 0, 0⟩, D) := by
  have hr := drop_room h hp
  unfold Rs.take Rs.skip
  rw [if_pos rfl, if_neg (by omega), if_neg (by dsimp only; omega)]
  simp [h]
theorem Rs.byte_pre {B rest : List UInt8} {p : Nat} {x : UInt8} (h : B.drop p = x :: rest) (hp : p ≤ B.length) : (⟨p, 0, 0⟩ : Rs).byte B = (⟨p + 1, 0, 0⟩, x) := by
  have hr := drop_room (D := [x]) h hp
  simp at hr
  have hx : B.getD p 0 = x := by
    have : (B.drop p)[0]? = some x := by rw [h]; rfl
    simp at this
    simp [List.getD, this]
  unfold Rs.byte Rs.skip
  rw [if_pos rfl, if_neg (by omega), if_neg (by dsimp only; omega)]
  dsimp only
  rw [if_pos rfl, hx]
  rfl
theorem Rs.int_pre {B rest : List UInt8} {p x : Nat} {m : Int} (hx : x < 18446744073709551616) (h : B.drop p = varB x ++ rest) (hm : (x : Int) ≤ m) : (⟨p, 0, 0⟩ : Rs).int B m = (⟨p + (varB x).length, 0, 0⟩, x) := by
  unfold Rs.int Rs.most
  rw [if_pos (by omega), Rs.num_varB hx h, if_neg (by dsimp only; omega)]
theorem Rs.blob_pre {B D rest : List UInt8} {p : Nat} {m : Int} (hx : D.length < 18446744073709551616) (h : B.drop p = blobB D ++ rest) (hp : p ≤ B.length) (hm : (D.length : Int) ≤ m) : (⟨p, 0, 0⟩ : Rs).blob B m = (⟨p + (blobB D).length, 0, 0⟩, D) := by
  unfold blobB at h
  rw [List.append_assoc] at h
  have h2 := drop_more h
  have hr := drop_room h hp
  unfold Rs.blob
  rw [Rs.int_pre hx h hm]
  dsimp only
  rw [Rs.take_pre h2 (by omega)]
  simp [blobB, Nat.add_assoc]

theorem againL_take {b : List UInt8} {o : Nat} : ∀ (m p : Nat), p + m ≤ b.length → 1 ≤ o → o ≤ p → (∀ k, k < m → b[p + k]? = b[p + k - o]?) → againL o m (b.take p) = b.take (p + m)
  | 0, p, _, _, _, _ => rfl
  | m + 1, p, h, h1, h2, hs => by
    have h0 := hs 0 (by omega)
    have hb : b[p]? = some b[p] := by simp
    simp only [Nat.add_zero] at h0
    have e : b.take p ++ [(b.take p).getD ((b.take p).length - o) 0] = b.take (p + 1) := by
      rw [List.length_take, Nat.min_eq_left (by omega)]
      have : (b.take p).getD (p - o) 0 = b[p] := by
        have : (b.take p)[p - o]? = some b[p] := by rw [List.getElem?_take_of_lt (by omega), ← h0, hb]
        simp [List.getD, this]
      rw [this]
      rw [List.take_add_one, hb]; rfl
    simp only [againL]
    rw [e, againL_take m (p + 1) (by omega) h1 (by omega) (fun k hk => by
      have := hs (k + 1) (by omega)
      rw [show p + 1 + k = p + (k + 1) by omega]
      exact this)]
    rw [show p + 1 + m = p + (m + 1) by omega]

theorem exR_good {b B : List UInt8} {bound : Int} (hb : b.length ≤ 1048576) (hbd : (b.length : Int) ≤ bound) {f : Bool} {p : Nat} {ts : List Tok} (hg : Good b f p ts) : p ≤ b.length → ∀ q, q ≤ B.length → B.drop q = tokensB ts → exR B bound ⟨q, 0, 0⟩ (b.take p) = (⟨B.length, 0, 0⟩, b) := by
  induction hg with
  | nil =>
    intro _ q hq h
    have : B.length ≤ q := by simpa [tokensB] using h
    obtain rfl : q = B.length := by omega
    rw [exR_stop (by simp)]
    simp
  | @copy f p o m rest hp hbe hm hg ih =>
    intro _ q hq h
    rcases bestR_facts b p with h0 | ⟨o', m', he, h1, h2, h4, hml, _, _⟩
    · rw [hbe] at h0; simp at h0; omega
    · rw [hbe] at he
      simp only [Prod.mk.injEq] at he
      obtain ⟨rfl, rfl⟩ := he
      have hmb := mlen_le b p o
      have hre : reach p ≤ p ∧ reach p ≤ 65536 := by unfold reach; omega
      have ht : tokensB (⟨[], (o : Int), (m : Int)⟩ :: rest) = varB (2 * m - 7) ++ (varB (o - 1) ++ tokensB rest) := by
        simp only [tokensB, List.map_cons, List.flatten_cons]
        rw [tokB_copy o m h1, List.append_assoc]
      rw [ht] at h
      have hd1 := drop_more h
      have hr1 := drop_room h hq
      have hd2 := drop_more hd1
      have hr2 := drop_room hd1 (by omega)
      have hl1 := (varB_len (2 * m - 7)).2
      have hN := Rs.num_varB (by omega) h
      have hN2 := Rs.num_varB (p := q + (varB (2 * m - 7)).length) (by omega) hd1
      have hH : (⟨q, 0, 0⟩ : Rs).head B = (⟨q + (varB (2 * m - 7)).length, 0, 0⟩, true, m) := by
        unfold Rs.head
        rw [hN]
        dsimp only
        rw [if_pos rfl, if_pos (by omega), if_neg (by omega), show (2 * m - 7) / 2 + 4 = m by omega]
      have hO : (⟨q + (varB (2 * m - 7)).length, 0, 0⟩ : Rs).offset B = (⟨q + (varB (2 * m - 7)).length + (varB (o - 1)).length, 0, 0⟩, o) := by
        unfold Rs.offset
        rw [hN2]
        dsimp only
        rw [if_neg (by omega), if_pos rfl, show o - 1 + 1 = o by omega]
      have hlen : (b.take p).length = p := by simp; omega
      have hS : exStep B bound ⟨q, 0, 0⟩ (b.take p) = (⟨q + (varB (2 * m - 7)).length + (varB (o - 1)).length, 0, 0⟩, b.take (p + m)) := by
        unfold exStep
        rw [hH]
        dsimp only
        rw [hlen, if_neg (by omega), if_neg (by simp), hO]
        dsimp only
        rw [if_neg (by omega), if_pos rfl, againL_take m p (by omega) h1 (by omega) (fun k hk => (mlen_same (by omega)).2.2.2)]
      rw [exR_go ⟨hq, fun _ => rfl⟩ (by dsimp only; omega) rfl, hS]
      exact ih (by omega) _ (by omega) hd2
  | @run p q' rest hlt hle hno hg ih =>
    intro _ q hq h
    have hD : ((b.drop p).take (q' - p)).length = q' - p := by simp; omega
    generalize hDe : (b.drop p).take (q' - p) = D at *
    have ht : tokensB (⟨D, 0, 0⟩ :: rest) = varB (2 * D.length - 2) ++ (D ++ tokensB rest) := by
      simp only [tokensB, List.map_cons, List.flatten_cons]
      rw [tokB_run D (by omega) (by omega), List.append_assoc]
    rw [ht] at h
    have hd1 := drop_more h
    have hr1 := drop_room h hq
    have hd2 := drop_more hd1
    have hr2 := drop_room hd1 (by omega)
    have hl1 := (varB_len (2 * D.length - 2)).2
    have hN := Rs.num_varB (by omega) h
    have hH : (⟨q, 0, 0⟩ : Rs).head B = (⟨q + (varB (2 * D.length - 2)).length, 0, 0⟩, false, D.length) := by
      unfold Rs.head
      rw [hN]
      dsimp only
      rw [if_pos rfl, if_neg (by omega), if_neg (by omega), show (2 * D.length - 2) / 2 + 1 = D.length by omega]
    have hlen : (b.take p).length = p := by simp; omega
    have hS : exStep B bound ⟨q, 0, 0⟩ (b.take p) = (⟨q + (varB (2 * D.length - 2)).length + D.length, 0, 0⟩, b.take q') := by
      unfold exStep
      rw [hH]
      dsimp only
      rw [hlen, if_neg (by omega), if_pos rfl, Rs.take_pre hd1 (by omega)]
      rw [← hDe]
      refine Prod.ext rfl ?_
      dsimp only
      have : b.take q' = b.take p ++ (b.drop p).take (q' - p) := by
        rw [← List.take_append_drop p (b.take q'), List.take_take, Nat.min_eq_left (by omega), List.drop_take]
      exact this.symm
    rw [exR_go ⟨hq, fun _ => rfl⟩ (by dsimp only; omega) rfl, hS]
    exact ih (by omega) _ (by omega) hd2
/-- What is compressed is expanded to what it was. -/
theorem exB_press {b : List UInt8} {bound : Int} (hb : b.length ≤ 1048576) (hbd : (b.length : Int) ≤ bound) : exB (pressB b) bound = (b, 0, 0) := by
  have := exR_good (B := pressB b) hb hbd (good_toksR b) (by omega) 0 (by omega) rfl
  rw [exB_is]
  simp only [List.take_zero] at this
  rw [this, if_pos rfl]
/-- What is put is read. -/
theorem Rs.loose_block {B D rest : List UInt8} {p : Nat} {most : Int} (h : B.drop p = blockB D ++ rest) (hp : p ≤ B.length) (hD : D.length ≤ 1048576) (hm : (D.length : Int) ≤ most) :
    (⟨p, 0, 0⟩ : Rs).loose B most = (⟨p + (blockB D).length, 0, 0⟩, D, true) := by
  have htk : (B.drop p).take (blockB D).length = blockB D := by rw [h]; simp
  have h' := h
  unfold blockB at h
  rw [List.append_assoc] at h
  have hd1 := drop_more h
  have hr1 := drop_room h hp
  have hI := Rs.int_pre (m := min most 1048576) (by omega) h (by omega)
  unfold Rs.loose
  rw [hI]
  dsimp only
  cases hpk : packR D
  · rw [hpk] at hd1
    rw [if_neg (by simp)] at hd1
    have hd2 := drop_more (D := [0]) hd1
    have hr2 := drop_room (D := [0]) hd1 (by omega)
    simp only [List.length_cons, List.length_nil, Nat.zero_add] at hd2 hr2
    rw [Rs.byte_pre hd1 (by omega)]
    dsimp only
    rw [if_pos rfl, if_pos (by rfl), Rs.take_pre hd2 (by omega)]
    dsimp only
    rw [if_pos rfl]
    have hl : (blockB D).length = (varB D.length).length + (1 + D.length) := by simp [blockB, hpk]; omega
    rw [show p + (varB D.length).length + 1 + D.length = p + (blockB D).length by omega, show p + (blockB D).length - p = (blockB D).length by omega, htk]
    simp
  · have hpl : (blobB (pressB D)).length < D.length := of_decide_eq_true hpk
    have hpl2 := blobB_len (pressB D)
    rw [hpk] at hd1
    rw [if_pos rfl] at hd1
    have hd2 := drop_more (D := [1]) hd1
    have hr2 := drop_room (D := [1]) hd1 (by omega)
    simp only [List.length_cons, List.length_nil, Nat.zero_add] at hd2 hr2
    rw [Rs.byte_pre hd1 (by omega)]
    dsimp only
    rw [if_pos rfl, if_neg (by decide), if_pos (by rfl)]
    have hB := Rs.blob_pre (m := 1048576) (by omega) hd2 (by omega) (by omega)
    have hU : (⟨p + (varB D.length).length + 1, 0, 0⟩ : Rs).unp B D.length = (⟨p + (varB D.length).length + 1 + (blobB (pressB D)).length, 0, 0⟩, D) := by
      unfold Rs.unp
      rw [hB]
      dsimp only
      rw [exB_press hD (Int.le_refl _)]
      dsimp only
      rw [if_pos rfl, if_pos rfl, if_neg (by omega)]
    rw [hU]
    dsimp only
    rw [if_pos rfl]
    have hl : (blockB D).length = (varB D.length).length + (1 + (blobB (pressB D)).length) := by simp [blockB, hpk]; omega
    rw [show p + (varB D.length).length + 1 + (blobB (pressB D)).length = p + (blockB D).length by omega, show p + (blockB D).length - p = (blockB D).length by omega, htk]
    simp

/-- A falling list, read. -/
def Rs.falls (B : List UInt8) : Nat → Rs → Int → List Int → Rs × List Int
  | 0, s, _, out => (s, out)
  | n + 1, s, below, out =>
    if (s.num B).1.k = 0 then
      (if below ≤ ((s.num B).2 : Int) then ((s.num B).1.fail 13 s.p, []) else Rs.falls B n (s.num B).1 (below - (s.num B).2 - 1) (out ++ [below - (s.num B).2 - 1]))
    else ((s.num B).1, [])
def Rs.delta (B : List UInt8) (s : Rs) (below : Int) (most : Int) : Rs × List Int := Rs.falls B (s.int B most).2 (s.int B most).1 below []
/-- A link's number behind another one's. -/
def Rs.stream (B : List UInt8) (s : Rs) (prev : Option Int) : Rs × Int :=
  match prev with
  | none => ((s.num B).1, ((s.num B).2 : Int))
  | some q => (if 18446744073709551615 - q ≤ ((s.num B).2 : Int) then (s.num B).1.fail 13 s.p else (s.num B).1, ((s.num B).2 : Int) + q + 1)
def Rs.linksF (B : List UInt8) (pos : Int) : Nat → Rs → Option Int → List Link → Rs × List Link
  | 0, s, _, out => (s, out)
  | n + 1, s, prev, out =>
    if ((s.stream B prev).1.delta B pos 4).1.k = 0 then Rs.linksF B pos n ((s.stream B prev).1.delta B pos 4).1 (some (s.stream B prev).2) (out ++ [⟨(s.stream B prev).2, ((s.stream B prev).1.delta B pos 4).2⟩])
    else (((s.stream B prev).1.delta B pos 4).1, [])
def Rs.links (B : List UInt8) (s : Rs) (pos : Int) : Rs × List Link := Rs.linksF B pos (s.int B 16).2 (s.int B 16).1 none []
/-- An entry's head. -/
def Rs.ehead (B : List UInt8) (s : Rs) (pos most : Int) : Rs × List Link × Nat :=
  if ((s.links B pos).1.int B most).1.k = 0 then (((s.links B pos).1.int B most).1, (s.links B pos).2, ((s.links B pos).1.int B most).2) else (((s.links B pos).1.int B most).1, [], 0)
def Rs.heads (B : List UInt8) : Nat → Rs → Int → Int → List (List Link × Nat) → Rs × List (List Link × Nat)
  | 0, s, _, _, out => (s, out)
  | n + 1, s, pos, left, out =>
    if (s.ehead B pos left).1.k = 0 then Rs.heads B n (s.ehead B pos left).1 (pos + 1) (left - (s.ehead B pos left).2.2) (out ++ [(s.ehead B pos left).2]) else ((s.ehead B pos left).1, [])
def sizesN (l : List (List Link × Nat)) : Nat := (l.map Prod.snd).sum
def dealE : List (List Link × Nat) → List UInt8 → List Entry
  | [], _ => []
  | (l, n) :: r, D => ⟨l, D.take n⟩ :: dealE r (D.drop n)
def Rs.ep (B : List UInt8) (s : Rs) : Rs × Nat := if (s.num B).1.k = 0 then (if epR ((s.num B).2 : Int) = true then s.num B else ((s.num B).1.fail 3 s.p, 0)) else ((s.num B).1, 0)
def Rs.po (B : List UInt8) (s : Rs) : Rs × Nat := if (s.num B).1.k = 0 then (if poR ((s.num B).2 : Int) = true then s.num B else ((s.num B).1.fail 3 s.p, 0)) else ((s.num B).1, 0)
/-- What stands ahead of the heads: the epoch, the base, how many. -/
def Rs.bfront (B : List UInt8) (s : Rs) : Rs × Nat × Nat × Nat :=
  ((if fitsR (((s.ep B).1.po B).2 : Int) (((s.ep B).1.po B).1.int B 16).2 = true then (((s.ep B).1.po B).1.int B 16).1 else (((s.ep B).1.po B).1.int B 16).1.fail 3 ((s.ep B).1.po B).1.p), (s.ep B).2, ((s.ep B).1.po B).2, (((s.ep B).1.po B).1.int B 16).2)
/-- What is behind the heads. -/
def Rs.bblock (blk : Rs → Rs × List UInt8 × Bool) (h : Rs × List (List Link × Nat)) : Rs × List Entry × Bool :=
  let p := blk h.1
  let u : Rs := if sizesN h.2 = p.2.1.length then p.1 else p.1.fail 3 h.1.p
  (u, dealE h.2 p.2.1, p.2.2)
def noBatch : Batch := ⟨0, 0, []⟩
def Rs.batch (B : List UInt8) (blk : Rs → Rs × List UInt8 × Bool) (s : Rs) : Rs × Batch × Bool :=
  let f := s.bfront B
  if f.1.k = 0 then
    let u := Rs.bblock blk (Rs.heads B f.2.2.2 f.1 (f.2.2.1 : Int) 1048576 [])
    if u.1.k = 0 then (u.1, ⟨(f.2.1 : Int), (f.2.2.1 : Int), u.2.1⟩, u.2.2) else (u.1, noBatch, false)
  else (f.1, noBatch, false)
/-- A block, by the strict reader. -/
def blkS (B : List UInt8) (s : Rs) : Rs × List UInt8 × Bool := ((Rs.strict (s.loose B 1048576)).1, (Rs.strict (s.loose B 1048576)).2, true)
def blkL (B : List UInt8) (s : Rs) : Rs × List UInt8 × Bool := s.loose B 1048576

theorem Rs.falls_put {B rest : List UInt8} : ∀ (l : List Int) (below : Int) (p : Nat) (out : List Int), fallsB below l = true → (∀ x ∈ l, 0 ≤ x) → below ≤ 18446744073709551615 → B.drop p = numsB (stepsL below l) ++ rest → p ≤ B.length →
    Rs.falls B l.length ⟨p, 0, 0⟩ below out = (⟨p + (numsB (stepsL below l)).length, 0, 0⟩, out ++ l)
  | [], below, p, out, _, _, _, _, _ => by simp [Rs.falls, stepsL, numsB]
  | x :: l, below, p, out, hf, hx, hb, h, hp => by
    simp only [fallsB, Bool.and_eq_true, decide_eq_true_eq] at hf
    have h0 := hx x (by simp)
    simp only [stepsL] at h ⊢
    rw [numsB_cons, List.append_assoc] at h
    have hn : (below - x - 1).toNat < 18446744073709551616 := by omega
    have hN := Rs.num_varB hn h
    have hd := drop_more h
    have hr := drop_room h hp
    simp only [List.length_cons, Rs.falls]
    rw [hN]
    dsimp only
    rw [if_pos rfl, toNat_cast (by omega), if_neg (by omega), show below - (below - x - 1) - 1 = x by omega, Rs.falls_put l x _ _ hf.2 (fun y hy => hx y (by simp [hy])) (by omega) hd (by omega), numsB_cons, List.length_append]
    simp [Nat.add_assoc]
theorem Rs.delta_put {B rest : List UInt8} {l : List Int} {pos : Int} {p : Nat} {most : Int} (hf : fallsB pos l = true) (hx : ∀ x ∈ l, 0 ≤ x) (hb : pos ≤ 18446744073709551615) (h : B.drop p = deltaB pos l ++ rest) (hp : p ≤ B.length) (hm : (l.length : Int) ≤ most) (hl : l.length < 18446744073709551616) :
    (⟨p, 0, 0⟩ : Rs).delta B pos most = (⟨p + (deltaB pos l).length, 0, 0⟩, l) := by
  unfold deltaB at h ⊢
  rw [List.append_assoc] at h
  have hd := drop_more h
  have hr := drop_room h hp
  unfold Rs.delta
  rw [Rs.int_pre hl h hm]
  dsimp only
  rw [Rs.falls_put l pos _ _ hf hx hb hd (by omega)]
  simp [Nat.add_assoc]
theorem Rs.linksF_put {B rest : List UInt8} {pos : Int} (hpos : pos ≤ 18446744073709551615) : ∀ (l : List Link) (prev : Option Int) (p : Nat) (out : List Link), (∀ x ∈ l, linkR pos x = true ∧ (0 ≤ x.stream ∧ x.stream ≤ 18446744073709551615) ∧ ∀ y ∈ x.backs, 0 ≤ y) → (∀ q, prev = some q → 0 ≤ q ∧ risesB (q :: l.map Link.stream) = true) → risesB (l.map Link.stream) = true → B.drop p = lnkF pos prev l ++ rest → p ≤ B.length →
    Rs.linksF B pos l.length ⟨p, 0, 0⟩ prev out = (⟨p + (lnkF pos prev l).length, 0, 0⟩, out ++ l)
  | [], prev, p, out, _, _, _, _, _ => by simp [Rs.linksF, lnkF]
  | x :: l, prev, p, out, hx, hq, hri, h, hp => by
    obtain ⟨hr1, hs, hbk⟩ := hx x (by simp)
    simp only [linkR, Bool.and_eq_true, decide_eq_true_eq] at hr1
    have hnext : ∀ q, some x.stream = some q → 0 ≤ q ∧ risesB (q :: l.map Link.stream) = true := fun q e => by
      simp only [Option.some.injEq] at e
      subst e
      exact ⟨hs.1, hri⟩
    have hri2 : risesB (l.map Link.stream) = true := by
      simp only [List.map_cons] at hri
      cases hl : l.map Link.stream with
      | nil => rfl
      | cons y r => rw [hl] at hri; simp only [risesB, Bool.and_eq_true] at hri; exact hri.2
    have key : ∃ y : Int, 0 ≤ y ∧ y ≤ 18446744073709551615 ∧ lnkF pos prev (x :: l) = varB y.toNat ++ (deltaB pos x.backs ++ lnkF pos (some x.stream) l) ∧ (B.drop p = varB y.toNat ++ ((deltaB pos x.backs ++ lnkF pos (some x.stream) l) ++ rest) → (⟨p, 0, 0⟩ : Rs).stream B prev = (⟨p + (varB y.toNat).length, 0, 0⟩, x.stream)) := by
      cases prev with
      | none =>
        refine ⟨x.stream, hs.1, hs.2, by simp [lnkF], fun h => ?_⟩
        unfold Rs.stream
        dsimp only
        rw [Rs.num_varB (by omega) h]
        dsimp only
        rw [toNat_cast hs.1]
      | some q =>
        obtain ⟨h0, hq1⟩ := hq q rfl
        simp only [List.map_cons, risesB, Bool.and_eq_true, decide_eq_true_eq] at hq1
        refine ⟨x.stream - q - 1, by omega, by omega, by simp [lnkF], fun h => ?_⟩
        unfold Rs.stream
        dsimp only
        rw [Rs.num_varB (by omega) h]
        dsimp only
        rw [toNat_cast (by omega), if_neg (by omega)]
        refine Prod.ext rfl ?_
        dsimp only
        omega
    obtain ⟨y, hy0, hy1, he, hst⟩ := key
    rw [he] at h ⊢
    rw [List.append_assoc] at h
    have hS := hst h
    have hd := drop_more h
    have hr := drop_room h hp
    rw [List.append_assoc] at hd
    have hD := Rs.delta_put (most := 4) hr1.2 hbk hpos hd (by omega) (by omega) (by omega)
    have hd2 := drop_more hd
    have hr2 := drop_room hd (by omega)
    simp only [List.length_cons, Rs.linksF]
    rw [hS]
    dsimp only
    rw [hD]
    dsimp only
    rw [if_pos rfl, Rs.linksF_put hpos l (some x.stream) _ _ (fun z hz => hx z (by simp [hz])) hnext hri2 hd2 (by omega)]
    simp [Nat.add_assoc]
theorem Rs.links_put {B rest : List UInt8} {pos : Int} {l : List Link} {p : Nat} (hpos : pos ≤ 18446744073709551615) (hR : linksR pos l = true) (hx : ∀ x ∈ l, (0 ≤ x.stream ∧ x.stream ≤ 18446744073709551615) ∧ ∀ y ∈ x.backs, 0 ≤ y) (h : B.drop p = linksB pos l ++ rest) (hp : p ≤ B.length) :
    (⟨p, 0, 0⟩ : Rs).links B pos = (⟨p + (linksB pos l).length, 0, 0⟩, l) := by
  simp only [linksR, Bool.and_eq_true, decide_eq_true_eq, List.all_eq_true] at hR
  unfold linksB at h ⊢
  rw [List.append_assoc] at h
  have hd := drop_more h
  have hr := drop_room h hp
  unfold Rs.links
  rw [Rs.int_pre (by omega) h (by omega)]
  dsimp only
  rw [Rs.linksF_put hpos l none _ _ (fun x h => ⟨hR.2.2 x h, hx x h⟩) (fun q e => by cases e) hR.2.1 hd (by omega)]
  simp [Nat.add_assoc]

theorem ofNat_byte {c : UInt8} {n : Nat} (h : n = c.toNat) : UInt8.ofNat n = c := by
  subst h
  exact UInt8.ofNat_toNat
theorem vget_canon : ∀ (l : List UInt8) (i x v u : Nat), i ≤ 9 → vget i x l = (v, u, 0) → ∃ y, v = x + y * 128 ^ i ∧ (0 < i → 0 < y) ∧ l.take (u - i) = varF (9 - i) y ∧ i < u ∧ u - i ≤ l.length
  | [], i, x, v, u, _, h => by simp [vget] at h
  | c :: l, i, x, v, u, hi, h => by
    have hc := c.toNat_lt
    unfold vget at h
    by_cases h1 : i = 9 ∧ 1 < c.toNat
    · rw [if_pos h1] at h; simp at h
    · rw [if_neg h1] at h
      by_cases h2 : 0 < i ∧ c.toNat = 0
      · rw [if_pos h2] at h; simp at h
      · rw [if_neg h2] at h
        by_cases h3 : c.toNat < 128
        · rw [if_pos h3] at h
          simp only [Prod.mk.injEq, and_true] at h
          obtain ⟨rfl, rfl⟩ := h
          refine ⟨c.toNat, rfl, fun h => by omega, ?_, by omega, by rw [List.length_cons]; omega⟩
          rw [show i + 1 - i = 1 by omega, List.take_succ_cons, List.take_zero]
          obtain ⟨f, hf⟩ : ∃ f, f = 9 - i := ⟨_, rfl⟩
          rw [← hf]
          cases f with
          | zero => simp only [varF]; rw [ofNat_byte rfl]
          | succ f => simp only [varF]; rw [if_pos h3, ofNat_byte rfl]
        · rw [if_neg h3] at h
          have hi9 : i < 9 := by
            rcases Nat.lt_or_ge i 9 with h | h
            · exact h
            · exact absurd ⟨by omega, by omega⟩ h1
          obtain ⟨y, hv, hy, ht, hu, hlu⟩ := vget_canon l (i + 1) _ v u (by omega) h
          have hy0 := hy (by omega)
          refine ⟨c.toNat % 128 + 128 * y, ?_, fun _ => by omega, ?_, by omega, by rw [List.length_cons]; omega⟩
          · rw [hv, Nat.pow_succ, Nat.add_mul]
            generalize 128 ^ i = k
            rw [Nat.mul_comm k 128, ← Nat.mul_assoc y 128 k, Nat.mul_comm y 128]
            omega
          · rw [show u - i = (u - (i + 1)) + 1 by omega, List.take_succ_cons, ht, show 9 - i = (9 - (i + 1)) + 1 by omega]
            simp only [varF]
            rw [if_neg (by omega), ofNat_byte (c := c) (by omega), show (c.toNat % 128 + 128 * y) / 128 = y by omega]
theorem Rs.num_canon {B : List UInt8} {s : Rs} (hs : s.ok B.length) (h : (s.num B).1.k = 0) : B.drop s.p = varB (s.num B).2 ++ B.drop (s.num B).1.p ∧ (s.num B).1.f = 0 := by
  have hm := Rs.num_more h
  have hle := hs.le
  unfold Rs.num at *
  rw [if_pos hm.2] at *
  dsimp only at h ⊢
  obtain ⟨y, hv, _, ht, hu, hlu⟩ := vget_canon (B.drop s.p) 0 0 _ _ (by omega) (show vget 0 0 (B.drop s.p) = ((vget 0 0 (B.drop s.p)).1, (vget 0 0 (B.drop s.p)).2.1, 0) from by rw [← h])
  simp only [Nat.pow_zero, Nat.mul_one, Nat.zero_add, Nat.sub_zero] at hv ht
  refine ⟨?_, by rw [if_pos h]⟩
  have : varB (vget 0 0 (B.drop s.p)).1 = (B.drop s.p).take (vget 0 0 (B.drop s.p)).2.1 := by rw [ht, hv]; rfl
  rw [this, ← List.drop_drop, List.take_append_drop]
theorem Rs.int_canon {B : List UInt8} {s : Rs} {m : Int} (hs : s.ok B.length) (h : (s.int B m).1.k = 0) : B.drop s.p = varB (s.int B m).2 ++ B.drop (s.int B m).1.p ∧ ((s.int B m).2 : Int) ≤ m ∧ s.k = 0 := by
  unfold Rs.int Rs.most at *
  by_cases h0 : 0 ≤ m
  · rw [if_pos h0] at h ⊢
    by_cases h1 : m.toNat < (s.num B).2
    · rw [if_pos h1] at h; exact absurd h (Rs.fail_k (by omega))
    · rw [if_neg h1] at h ⊢
      exact ⟨(Rs.num_canon hs h).1, by omega, (Rs.num_more h).2⟩
  · rw [if_neg h0] at h; exact absurd h (Rs.fail_k (by omega))
theorem Rs.stream_ok {B : List UInt8} {s : Rs} {prev : Option Int} (h : s.ok B.length) : (s.stream B prev).1.ok B.length := by
  unfold Rs.stream
  cases prev with
  | none => exact Rs.num_ok h
  | some q =>
    dsimp only
    split
    · exact Rs.fail_ok (Rs.num_ok h) (by omega)
    · exact Rs.num_ok h
/-- A falling list that is read is put so. -/
theorem Rs.falls_canon {B : List UInt8} : ∀ (n : Nat) (s : Rs) (below : Int) (out : List Int), s.ok B.length → below ≤ 18446744073709551615 → (Rs.falls B n s below out).1.k = 0 →
    ∃ l : List Int, (Rs.falls B n s below out).2 = out ++ l ∧ l.length = n ∧ fallsB below l = true ∧ (∀ x ∈ l, 0 ≤ x) ∧ B.drop s.p = numsB (stepsL below l) ++ B.drop (Rs.falls B n s below out).1.p ∧ s.k = 0
  | 0, s, below, out, hs, _, h => ⟨[], by simp [Rs.falls], rfl, rfl, by simp, by simp [Rs.falls, stepsL, numsB], h⟩
  | n + 1, s, below, out, hs, hb, h => by
    simp only [Rs.falls] at h ⊢
    by_cases h1 : (s.num B).1.k = 0
    · rw [if_pos h1] at h ⊢
      by_cases h2 : below ≤ ((s.num B).2 : Int)
      · rw [if_pos h2] at h; exact absurd h (Rs.fail_k (by omega))
      · rw [if_neg h2] at h ⊢
        obtain ⟨l, e1, e2, e3, e4, e5, _⟩ := Rs.falls_canon n _ _ _ (Rs.num_ok hs) (by omega) h
        have hc := (Rs.num_canon hs h1).1
        refine ⟨(below - (s.num B).2 - 1) :: l, ?_, by simp [e2], ?_, ?_, ?_, (Rs.num_more h1).2⟩
        · rw [e1]; simp
        · simp only [fallsB]; rw [e3, Bool.and_true]; exact decide_eq_true (by omega)
        · intro x hx
          rcases List.mem_cons.1 hx with rfl | hx
          · omega
          · exact e4 x hx
        · simp only [stepsL]
          rw [numsB_cons, List.append_assoc, ← e5, show (below - (below - ((s.num B).2 : Int) - 1) - 1).toNat = (s.num B).2 by omega]
          exact hc
    · rw [if_neg h1] at h; exact absurd h h1
theorem Rs.delta_canon {B : List UInt8} {s : Rs} {below most : Int} (hs : s.ok B.length) (hb : below ≤ 18446744073709551615) (h : (s.delta B below most).1.k = 0) :
    fallsB below (s.delta B below most).2 = true ∧ ((s.delta B below most).2.length : Int) ≤ most ∧ (∀ x ∈ (s.delta B below most).2, 0 ≤ x) ∧ B.drop s.p = deltaB below (s.delta B below most).2 ++ B.drop (s.delta B below most).1.p ∧ s.k = 0 := by
  unfold Rs.delta at *
  obtain ⟨l, e1, e2, e3, e4, e5, e6⟩ := Rs.falls_canon _ _ _ _ (Rs.int_ok hs) hb h
  have hi := Rs.int_canon hs e6
  rw [List.nil_append] at e1
  rw [e1]
  refine ⟨e3, by rw [e2]; exact hi.2.1, e4, ?_, hi.2.2⟩
  unfold deltaB
  rw [List.append_assoc, ← e5, e2]
  exact hi.1

/-- A reader of block g, and memory of one's own behind w. -/
structure RdInv (w W : World) (g : Nat) (B : List UInt8) (a : Option Addr) (s : Rs) : Prop where
  rd : RdAt W g B a s
  dat : rBytes.r (fun q => q < w.heap.size ∧ q ≠ g) W [.slice a B.length B.length] B
  tch : Tch (· = g) w W
  lt : g < w.heap.size
section
variable {w W W' : World} {g : Nat} {B : List UInt8} {a : Option Addr} {s s' : Rs}
theorem RdInv.refl (h : RdAt w g B a s) : RdInv w w g B a s := ⟨h, h.dat, Tch.refl _ _, h.blk.lt⟩
theorem RdInv.step (h : RdInv w W g B a s) (k : RdStep W g B a s' W') : RdInv w W' g B a s' :=
  ⟨k.1, rBytes.keep h.dat fun q hq => k.2.block q (Nat.lt_of_lt_of_le hq.1 h.tch.size) hq.2, h.tch.trans k.2 fun _ _ h => h, h.lt⟩
theorem RdInv.row (h : RdInv w W g B a s) (hb : Below w.heap.size W W') : RdInv w W' g B a s := by
  have hd := rBytes.keep h.dat (w' := W') fun q hq => hb.block q hq.1
  have hs := h.tch.size
  have hs2 := hb.size
  exact ⟨⟨h.rd.blk.below hb h.lt, rBytes.mono hd fun q hq => ⟨by omega, hq.2⟩, h.rd.ok⟩, hd, h.tch.trans (Tch.of_below hb) (fun b hb hle => by omega), h.lt⟩
theorem RdInv.to (h : RdInv w W g B a s) : RdStep w g B a s W := ⟨h.rd, h.tch⟩
theorem own_tch2 {base : Nat} {e : TypeId} {size : Nat} {v : Value} {n : Nat} {xs : List Value} (h : W.ownsRow base e size v n xs) (hg : g < base) (hb : Tch (· = g) W W') : W'.ownsRow base e size v n xs := by
  refine ⟨h.1, ?_⟩
  rcases h.2 with h0 | ⟨g', cap, cur, h1, h2, h3, h4⟩
  · exact .inl h0
  · exact .inr ⟨g', cap, cur, h1, h2, (hb.block _ (Blk.lt h3) (by omega)).trans h3, h4⟩
end

set_option maxRecDepth 100000 in
set_option maxHeartbeats 6400000 in
theorem delta_read (w : World) {g : Nat} {B : List UInt8} {a : Option Addr} {s : Rs} (h : RdAt w g B a s) (hB : B.length ≤ 1000000000) (below : Int) (hbl : 0 ≤ below ∧ below ≤ 18446744073709551615) (most : Int) (hmo : 0 ≤ most ∧ most ≤ 1000) :
    Calls Tryz.prog 349 #[.pointer (some ⟨g, 0, none⟩), .int .u64 below, .int .i64 most] w fun r w' => ∃ v, r = .returned v ∧ rU64s.r (fun q => w.heap.size ≤ q ∧ q < w'.heap.size) w' [v] (s.delta B below most).2 ∧ RdStep w g B a (s.delta B below most).1 w' := by
  obtain ⟨i0, hi, hz0, hz1, hz2⟩ := info_parts infoU
  have HI := hid (varint_int w h (by omega) most (by omega))
  have hNm := Rs.int_le (B := B) (s := s) (m := most)
  have hlt := h.blk.lt
  have HIN := hid (RdInv.refl h)
  unfold Rs.delta
  generalize s.int B most = I at *
  obtain ⟨s1, N⟩ := I
  dsimp only at *
  have hN : N ≤ 1000 := by omega
  clear h
  go_enter Tryz.func349, Tryz.ntmps349
  go_wp2_with fail
  refine HI.out.mono ?_
  rintro r w1 ⟨rfl, hst⟩
  have HIN1 := hid (HIN.out.step hst)
  clear hst
  go_wp2_with fail
  go_loopw [1, 7, 13] (fun b v i wr => ∃ (k : Nat) (bel : Int) (J : List Int) (st : Rs), k ≤ N ∧ i = .int .i64 k ∧ b = .int .u64 bel ∧ 0 ≤ bel ∧ bel ≤ 18446744073709551615 ∧ Hid (J.length = k) ∧ wr.ownsRow w.heap.size 36 1 v J.length (u64Cells J) ∧ Hid (∀ x ∈ J, 0 ≤ x ∧ x ≤ 18446744073709551615) ∧ Hid (RdInv w wr g B a st) ∧ Hid (Rs.falls B N s1 below [] = Rs.falls B (N - k) st bel J)) (fun _ _ i _ => N - (intOf i).toNat)
  case atStart => exact ⟨0, below, [], s1, Nat.zero_le _, rfl, rfl, hbl.1, hbl.2, hid rfl, ⟨rfl, .inl ⟨rfl, rfl⟩⟩, hid (by simp), HIN1, hid rfl⟩
  case round =>
    obtain ⟨k, bel, J, st, hk, rfl, rfl, hb0, hb1, hJl, hown, hJb, hin, hsp⟩ := hrel
    obtain ⟨av, cv, rfl⟩ := own_form hown
    have hJ9 : J.length ≤ 1000 := by have := hJl.out; omega
    rcases Nat.lt_or_ge k N with hlt2 | hge
    · have HAT := hid (rd_at wr hin.out.rd)
      have HVR := hid (varint_read wr hin.out.rd (by omega))
      have hx := Rs.num_small (B := B) (s := st)
      have hxb := Rs.num_bad (B := B) (s := st)
      have hstep : Rs.falls B (N - k) st bel J = (if (st.num B).1.k = 0 then (if bel ≤ ((st.num B).2 : Int) then ((st.num B).1.fail 13 st.p, []) else Rs.falls B (N - (k + 1)) (st.num B).1 (bel - (st.num B).2 - 1) (J ++ [bel - (st.num B).2 - 1])) else ((st.num B).1, [])) := by
        rw [show N - k = (N - (k + 1)) + 1 by omega]; rfl
      have HO := hid hown
      have i1 : (k : Int) < (N : Int) := by omega
      have d1 : decide ((k : Int) < (N : Int)) = true := decide_eq_true i1
      have d1' : decide (k < N) = true := decide_eq_true hlt2
      generalize st.num B = R at *
      obtain ⟨st1, x⟩ := R
      dsimp only at *
      have HBAD := hid hxb
      clear hown hxb
      by_cases hk1 : st1.k = 0
      · rw [if_pos hk1] at hstep
        by_cases hbx : bel ≤ (x : Int)
        · rw [if_pos hbx] at hstep
          have d2 : decide (bel ≤ (x : Int)) = true := decide_eq_true hbx
          have hfk : (st1.fail 13 st.p).k ≠ 0 := Rs.fail_k (by omega)
          have HSP := hid (hsp.out.trans hstep)
          clear hstep hsp hk1
          go_wp2_with fail
          refine HAT.out.mono ?_
          rintro r w2 ⟨rfl, rfl⟩
          go_wp2_with fail
          refine HVR.out.mono ?_
          rintro r w3 ⟨rfl, hst3⟩
          have HIN3 := hid (hin.out.step hst3)
          clear hst3
          go_wp2_with fail
          refine (rd_fail w3 HIN3.out.rd 13 (st.p : Int) (by omega)).mono ?_
          rintro r w4 ⟨rfl, hst4⟩
          have HIN4 := hid (HIN3.out.step hst4)
          have hg := rd_good w4 HIN4.out.rd
          rw [decide_eq_false hfk] at hg
          have HG := hid hg
          clear hst4 hg hfk
          go_wp2_with fail
          refine HG.out.mono ?_
          rintro r w5 ⟨rfl, hb5⟩
          have HE := hid (HIN4.out.to.then hb5)
          go_wp2
          go_ret
          rw [HSP.out]
          exact ⟨_, rfl, rSl_mk (xs := []) rfl (Nat.le_refl _) (Nat.zero_le _) (.inl rfl), HE.out⟩
        · rw [if_neg hbx] at hstep
          have d2 : decide (bel ≤ (x : Int)) = false := decide_eq_false hbx
          have HSP := hid (hsp.out.trans hstep)
          have w1' : 0 ≤ bel - ((x : Int) + 1) := by omega
          have w2' : (x : Int) + 1 ≤ 18446744073709551615 := by omega
          have hk1' : decide (st1.k = 0) = true := decide_eq_true hk1
          clear hstep hsp hk1
          go_wp2_with fail
          refine HAT.out.mono ?_
          rintro r w2 ⟨rfl, rfl⟩
          go_wp2_with fail
          refine HVR.out.mono ?_
          rintro r w3 ⟨rfl, hst3⟩
          have HIN3 := hid (hin.out.step hst3)
          have HO3 := hid (own_tch2 HO.out hlt hst3.2)
          have hg := rd_good w3 HIN3.out.rd
          rw [hk1'] at hg
          have HG := hid hg
          clear hst3 hg hk1'
          go_wp2_with fail
          refine HG.out.mono ?_
          rintro r w4 ⟨rfl, hb4⟩
          have HIN4 := hid (HIN3.out.step (RdStep.later HIN3.out.rd hb4))
          have HO4 := hid (own_below HO3.out hb4)
          have hsz4 := HIN4.out.tch.size
          clear hb4
          go_wp2_with (at_builtin; go_loud (refine wpList_append_src rfl _ _ _ rfl w.heap.size 36 i0 (.int .u64 0) 1 8 Tryz.underlying37 hi hz0 hz1 hz2 rfl (by decide) (.slice av J.length cv) J.length _ rfl (own_below HO4.out (by (repeat (first | with_reducible exact Below.refl _ _ | with_reducible assumption | (with_reducible refine below_alloc ?_ _) | (with_reducible refine Below.setCell ?_ (by first | omega | (simp; done) | (simp; omega)) _) | (with_reducible refine Below.drew ?_) | (with_reducible refine below_drewN ?_ _) | (refine below_then (by with_reducible assumption) ?_))))) (some ⟨w4.heap.size, 0, none⟩) 1 1 [.int .u64 (bel - ((x : Int) + 1))] rfl (src_new1 _ 36 _ rfl (by simp) rfl) (by simp [Value.oneCell']) (by simp only [maxLen]; omega) (by omega) (by simp; omega) ?_; intro v' w5 hown5 hgrow5 hat5; obtain ⟨a5, c5, rfl⟩ := own_form hown5; have HO5 := hid hown5; have hb5 : Below w.heap.size w4 w5 := (Below.grown ((by (repeat (first | with_reducible exact Below.refl _ _ | with_reducible assumption | (with_reducible refine below_alloc ?_ _) | (with_reducible refine Below.setCell ?_ (by first | omega | (simp; done) | (simp; omega)) _) | (with_reducible refine Below.drew ?_) | (with_reducible refine below_drewN ?_ _) | (refine below_then (by with_reducible assumption) ?_))) : Below w4.heap.size w4 _).mono hsz4) hgrow5 (by simp; omega) (fun g e => (HO4.out.lt g e).1)); clear hown5 hgrow5 hat5))
          have HIN5 := hid (HIN4.out.row hb5)
          have ho5 : w5.ownsRow w.heap.size 36 1 (.slice a5 (J.length + 1) c5) (J ++ [bel - ((x : Int) + 1)]).length (u64Cells (J ++ [bel - ((x : Int) + 1)])) := by
            have e : u64Cells (J ++ [bel - ((x : Int) + 1)]) = u64Cells J ++ [.int .u64 (bel - ((x : Int) + 1))] := by simp [u64Cells]
            rw [e, List.length_append]
            exact HO5.out
          have HO6 := hid ho5
          have HB6 : Hid (∀ y ∈ J ++ [bel - ((x : Int) + 1)], 0 ≤ y ∧ y ≤ 18446744073709551615) := hid (fun y hy => by
            rw [List.mem_append, List.mem_singleton] at hy
            rcases hy with hy | rfl
            · exact hJb.out y hy
            · omega)
          have HSP6 : Hid (Rs.falls B N s1 below [] = Rs.falls B (N - (k + 1)) st1 (bel - ((x : Int) + 1)) (J ++ [bel - ((x : Int) + 1)])) := hid (by rw [HSP.out, show bel - (x : Int) - 1 = bel - ((x : Int) + 1) by omega])
          clear ho5
          go_roundw
          case rel => exact ⟨k + 1, bel - ((x : Int) + 1), J ++ [bel - ((x : Int) + 1)], st1, by omega, by go_num, rfl, by omega, by omega, hid (by simp; exact hJl.out), HO6.out, HB6, HIN5, HSP6⟩
          case measure => simp [intOf]; omega
      · rw [if_neg hk1] at hstep
        have HSP := hid (hsp.out.trans hstep)
        have hx0 := HBAD.out hk1
        subst hx0
        have hk1' : decide (st1.k = 0) = false := decide_eq_false hk1
        have hfid : st1.fail 13 st.p = st1 := Rs.fail_of_bad hk1
        clear hstep hsp hk1
        by_cases hbx : bel ≤ 0
        · have d2 : decide (bel ≤ ((0 : Nat) : Int)) = true := decide_eq_true (by omega)
          have d2' : decide (bel ≤ 0) = true := decide_eq_true hbx
          go_wp2_with fail
          refine HAT.out.mono ?_
          rintro r w2 ⟨rfl, rfl⟩
          go_wp2_with fail
          refine HVR.out.mono ?_
          rintro r w3 ⟨rfl, hst3⟩
          have HIN3 := hid (hin.out.step hst3)
          clear hst3
          go_wp2_with fail
          refine (rd_fail w3 HIN3.out.rd 13 (st.p : Int) (by omega)).mono ?_
          rintro r w4 ⟨rfl, hst4⟩
          rw [hfid] at hst4
          have HIN4 := hid (HIN3.out.step hst4)
          have hg := rd_good w4 HIN4.out.rd
          rw [hk1'] at hg
          have HG := hid hg
          clear hst4 hg hk1' hfid
          go_wp2_with fail
          refine HG.out.mono ?_
          rintro r w5 ⟨rfl, hb5⟩
          have HE := hid (HIN4.out.to.then hb5)
          go_wp2
          go_ret
          rw [HSP.out]
          exact ⟨_, rfl, rSl_mk (xs := []) rfl (Nat.le_refl _) (Nat.zero_le _) (.inl rfl), HE.out⟩
        · have d2 : decide (bel ≤ ((0 : Nat) : Int)) = false := decide_eq_false (by omega)
          have d2' : decide (bel ≤ 0) = false := decide_eq_false hbx
          go_wp2_with fail
          refine HAT.out.mono ?_
          rintro r w2 ⟨rfl, rfl⟩
          go_wp2_with fail
          refine HVR.out.mono ?_
          rintro r w3 ⟨rfl, hst3⟩
          have HIN3 := hid (hin.out.step hst3)
          have hg := rd_good w3 HIN3.out.rd
          rw [hk1'] at hg
          have HG := hid hg
          clear hst3 hg hk1' hfid
          go_wp2_with fail
          refine HG.out.mono ?_
          rintro r w5 ⟨rfl, hb5⟩
          have HE := hid (HIN3.out.to.then hb5)
          go_wp2
          go_ret
          rw [HSP.out]
          exact ⟨_, rfl, rSl_mk (xs := []) rfl (Nat.le_refl _) (Nat.zero_le _) (.inl rfl), HE.out⟩
    · obtain rfl : k = N := by omega
      have d1 : decide ((k : Int) < (k : Int)) = false := decide_eq_false (by omega)
      have HSP : Hid (Rs.falls B k s1 below [] = (st, J)) := hid (by rw [hsp.out, Nat.sub_self]; rfl)
      have HV := hid (own_ints64 hJb.out rfl hown)
      have HE := hid hin.out.to
      clear hown hsp
      go_wp2
      go_ret
      rw [HSP.out]
      exact ⟨_, rfl, HV.out, HE.out⟩

theorem Rs.int_of_bad {B : List UInt8} {s : Rs} {m : Int} (h : s.k ≠ 0) : s.int B m = (s, 0) := by
  unfold Rs.int Rs.most
  rw [Rs.num_of_bad h]
  split
  · rw [if_neg (by dsimp only; omega)]
  · rw [Rs.fail_of_bad h]
theorem Rs.byte_of_bad {B : List UInt8} {s : Rs} (h : s.k ≠ 0) : s.byte B = (s, 0) := by
  unfold Rs.byte
  rw [Rs.skip_of_bad h]
  rfl
theorem Rs.loose_of_bad {B : List UInt8} {s : Rs} {m : Int} (h : s.k ≠ 0) : s.loose B m = (s, [], false) := by
  unfold Rs.loose
  rw [Rs.int_of_bad h]
  dsimp only
  rw [Rs.byte_of_bad h]
  dsimp only
  rw [if_neg h]

set_option maxRecDepth 100000 in
set_option maxHeartbeats 3200000 in
theorem epoch_read_ep (w : World) {g : Nat} {B : List UInt8} {a : Option Addr} {s : Rs} (h : RdAt w g B a s) (hB : B.length ≤ 1000000000) :
    Calls Tryz.prog 255 #[.pointer (some ⟨g, 0, none⟩), .func (Fn.func 142) #[] #[]] w fun r w' => r = .returned (.int .u64 ((s.ep B).2 : Int)) ∧ RdStep w g B a (s.ep B).1 w' := by
  have HAT := hid (rd_at w h)
  have HVR := hid (varint_read w h (by omega))
  have hxb := Rs.num_bad (B := B) (s := s)
  have HIN := hid (RdInv.refl h)
  unfold Rs.ep
  generalize s.num B = R at *
  obtain ⟨st1, x⟩ := R
  dsimp only at *
  have HRT := hid (fun (W : World) => epoch_right (x : Int) W)
  have HBAD := hid hxb
  clear h hxb
  by_cases hk1 : st1.k = 0
  · rw [if_pos hk1]
    by_cases hr : epR (x : Int) = true
    · rw [if_pos hr]
      rw [hr] at HRT
      have HK : Hid (decide (st1.k = 0) = true) := hid (decide_eq_true hk1)
      clear hk1 hr
      go_enter Tryz.func255, Tryz.ntmps255
      go_wp2_with fail
      refine HAT.out.mono ?_
      rintro r w2 ⟨rfl, rfl⟩
      go_wp2_with fail
      refine HVR.out.mono ?_
      rintro r w3 ⟨rfl, hst3⟩
      have HIN3 := hid (HIN.out.step hst3)
      clear hst3
      go_wp2_with fail
      refine (HRT.out w3).mono ?_
      rintro r w3' ⟨rfl, rfl⟩
      go_wp2_with fail

      refine ((by have := rd_good w3 HIN3.out.rd; rw [HK.out] at this; exact this : Calls Tryz.prog 112 #[.pointer (some ⟨g, 0, none⟩)] w3 fun r w' => r = .returned (.bool true) ∧ Below w3.heap.size w3 w')).mono ?_
      rintro r w5 ⟨rfl, hb5⟩
      have HE := hid (HIN3.out.to.then hb5)
      go_wp2
      go_ret
      exact ⟨rfl, HE.out⟩
    · rw [if_neg hr]
      rw [Bool.eq_false_iff.2 hr] at HRT
      have hfk : (st1.fail 3 s.p).k ≠ 0 := Rs.fail_k (by omega)
      clear hk1 hr
      go_enter Tryz.func255, Tryz.ntmps255
      go_wp2_with fail
      refine HAT.out.mono ?_
      rintro r w2 ⟨rfl, rfl⟩
      go_wp2_with fail
      refine HVR.out.mono ?_
      rintro r w3 ⟨rfl, hst3⟩
      have HIN3 := hid (HIN.out.step hst3)
      clear hst3
      go_wp2_with fail
      refine (HRT.out w3).mono ?_
      rintro r w3' ⟨rfl, rfl⟩
      go_wp2_with fail

      refine (rd_fail w3 HIN3.out.rd 3 (s.p : Int) (by omega)).mono ?_
      rintro r w4 ⟨rfl, hst4⟩
      have HIN4 := hid (HIN3.out.step hst4)
      have hg := rd_good w4 HIN4.out.rd
      rw [decide_eq_false hfk] at hg
      have HG := hid hg
      clear hst4 hg hfk
      go_wp2_with fail

      refine HG.out.mono ?_
      rintro r w5 ⟨rfl, hb5⟩
      have HE := hid (HIN4.out.to.then hb5)
      go_wp2
      go_ret
      exact ⟨rfl, HE.out⟩
  · rw [if_neg hk1]
    have hx0 := HBAD.out hk1
    subst hx0
    have hfk : st1.k ≠ 0 := hk1
    have hfid : st1.fail 3 s.p = st1 := Rs.fail_of_bad hk1
    rw [show epR ((0 : Nat) : Int) = false from by decide] at HRT
    clear hk1
    go_enter Tryz.func255, Tryz.ntmps255
    go_wp2_with fail
    refine HAT.out.mono ?_
    rintro r w2 ⟨rfl, rfl⟩
    go_wp2_with fail
    refine HVR.out.mono ?_
    rintro r w3 ⟨rfl, hst3⟩
    have HIN3 := hid (HIN.out.step hst3)
    clear hst3
    go_wp2_with fail
    refine (HRT.out w3).mono ?_
    rintro r w3' ⟨rfl, rfl⟩
    go_wp2_with fail

    refine (rd_fail w3 HIN3.out.rd 3 (s.p : Int) (by omega)).mono ?_
    rintro r w4 ⟨rfl, hst4⟩
    rw [hfid] at hst4
    clear hfid
    have HIN4 := hid (HIN3.out.step hst4)
    have hg := rd_good w4 HIN4.out.rd
    rw [decide_eq_false hfk] at hg
    have HG := hid hg
    clear hst4 hg hfk
    go_wp2_with fail

    refine HG.out.mono ?_
    rintro r w5 ⟨rfl, hb5⟩
    have HE := hid (HIN4.out.to.then hb5)
    go_wp2
    go_ret
    exact ⟨rfl, HE.out⟩

theorem epoch_read (w : World) {g : Nat} {B : List UInt8} {a : Option Addr} {s : Rs} (h : RdAt w g B a s) (hB : B.length ≤ 1000000000) :
    Calls Tryz.prog 188 #[.pointer (some ⟨g, 0, none⟩)] w fun r w' => r = .returned (.int .u64 ((s.ep B).2 : Int)) ∧ RdStep w g B a (s.ep B).1 w' := by
  have HR := hid (epoch_read_ep w h hB)
  generalize s.ep B = R at *
  clear h
  go_enter Tryz.func188, Tryz.ntmps188
  go_wp2_with fail
  refine HR.out.mono ?_
  rintro r w1 ⟨rfl, hst⟩
  have HST := hid hst
  clear hst
  go_wp2
  go_ret
  exact ⟨rfl, HST.out⟩

set_option maxRecDepth 100000 in
set_option maxHeartbeats 3200000 in
theorem epoch_read_po (w : World) {g : Nat} {B : List UInt8} {a : Option Addr} {s : Rs} (h : RdAt w g B a s) (hB : B.length ≤ 1000000000) :
    Calls Tryz.prog 255 #[.pointer (some ⟨g, 0, none⟩), .func (Fn.func 256) #[] #[]] w fun r w' => r = .returned (.int .u64 ((s.po B).2 : Int)) ∧ RdStep w g B a (s.po B).1 w' := by
  have HAT := hid (rd_at w h)
  have HVR := hid (varint_read w h (by omega))
  have hxb := Rs.num_bad (B := B) (s := s)
  have HIN := hid (RdInv.refl h)
  unfold Rs.po
  generalize s.num B = R at *
  obtain ⟨st1, x⟩ := R
  dsimp only at *
  have HRT := hid (fun (W : World) => epoch_pos (x : Int) W)
  have HBAD := hid hxb
  clear h hxb
  by_cases hk1 : st1.k = 0
  · rw [if_pos hk1]
    by_cases hr : poR (x : Int) = true
    · rw [if_pos hr]
      rw [hr] at HRT
      have HK : Hid (decide (st1.k = 0) = true) := hid (decide_eq_true hk1)
      clear hk1 hr
      go_enter Tryz.func255, Tryz.ntmps255
      go_wp2_with fail
      refine HAT.out.mono ?_
      rintro r w2 ⟨rfl, rfl⟩
      go_wp2_with fail
      refine HVR.out.mono ?_
      rintro r w3 ⟨rfl, hst3⟩
      have HIN3 := hid (HIN.out.step hst3)
      clear hst3
      go_wp2_with fail
      refine (HRT.out w3).mono ?_
      rintro r w3' ⟨rfl, rfl⟩
      go_wp2_with fail

      refine ((by have := rd_good w3 HIN3.out.rd; rw [HK.out] at this; exact this : Calls Tryz.prog 112 #[.pointer (some ⟨g, 0, none⟩)] w3 fun r w' => r = .returned (.bool true) ∧ Below w3.heap.size w3 w')).mono ?_
      rintro r w5 ⟨rfl, hb5⟩
      have HE := hid (HIN3.out.to.then hb5)
      go_wp2
      go_ret
      exact ⟨rfl, HE.out⟩
    · rw [if_neg hr]
      rw [Bool.eq_false_iff.2 hr] at HRT
      have hfk : (st1.fail 3 s.p).k ≠ 0 := Rs.fail_k (by omega)
      clear hk1 hr
      go_enter Tryz.func255, Tryz.ntmps255
      go_wp2_with fail
      refine HAT.out.mono ?_
      rintro r w2 ⟨rfl, rfl⟩
      go_wp2_with fail
      refine HVR.out.mono ?_
      rintro r w3 ⟨rfl, hst3⟩
      have HIN3 := hid (HIN.out.step hst3)
      clear hst3
      go_wp2_with fail
      refine (HRT.out w3).mono ?_
      rintro r w3' ⟨rfl, rfl⟩
      go_wp2_with fail

      refine (rd_fail w3 HIN3.out.rd 3 (s.p : Int) (by omega)).mono ?_
      rintro r w4 ⟨rfl, hst4⟩
      have HIN4 := hid (HIN3.out.step hst4)
      have hg := rd_good w4 HIN4.out.rd
      rw [decide_eq_false hfk] at hg
      have HG := hid hg
      clear hst4 hg hfk
      go_wp2_with fail

      refine HG.out.mono ?_
      rintro r w5 ⟨rfl, hb5⟩
      have HE := hid (HIN4.out.to.then hb5)
      go_wp2
      go_ret
      exact ⟨rfl, HE.out⟩
  · rw [if_neg hk1]
    have hx0 := HBAD.out hk1
    subst hx0
    have hfk : st1.k ≠ 0 := hk1
    have hfid : st1.fail 3 s.p = st1 := Rs.fail_of_bad hk1
    rw [show poR ((0 : Nat) : Int) = true from by decide] at HRT
    clear hk1
    go_enter Tryz.func255, Tryz.ntmps255
    go_wp2_with fail
    refine HAT.out.mono ?_
    rintro r w2 ⟨rfl, rfl⟩
    go_wp2_with fail
    refine HVR.out.mono ?_
    rintro r w3 ⟨rfl, hst3⟩
    have HIN3 := hid (HIN.out.step hst3)
    clear hst3
    go_wp2_with fail
    refine (HRT.out w3).mono ?_
    rintro r w3' ⟨rfl, rfl⟩
    go_wp2_with fail

    refine ((by have := rd_good w3 HIN3.out.rd; rw [decide_eq_false hfk] at this; exact this : Calls Tryz.prog 112 #[.pointer (some ⟨g, 0, none⟩)] w3 fun r w' => r = .returned (.bool false) ∧ Below w3.heap.size w3 w')).mono ?_
    rintro r w5 ⟨rfl, hb5⟩
    have HE := hid (HIN3.out.to.then hb5)
    clear hfk hfid
    go_wp2
    go_ret
    exact ⟨rfl, HE.out⟩

theorem epoch_readpos (w : World) {g : Nat} {B : List UInt8} {a : Option Addr} {s : Rs} (h : RdAt w g B a s) (hB : B.length ≤ 1000000000) :
    Calls Tryz.prog 190 #[.pointer (some ⟨g, 0, none⟩)] w fun r w' => r = .returned (.int .u64 ((s.po B).2 : Int)) ∧ RdStep w g B a (s.po B).1 w' := by
  have HR := hid (epoch_read_po w h hB)
  generalize s.po B = R at *
  clear h
  go_enter Tryz.func190, Tryz.ntmps190
  go_wp2_with fail
  refine HR.out.mono ?_
  rintro r w1 ⟨rfl, hst⟩
  have HST := hid hst
  clear hst
  go_wp2
  go_ret
  exact ⟨rfl, HST.out⟩
end Go.Proofs.YtfddhafbhceoaaaGreat
