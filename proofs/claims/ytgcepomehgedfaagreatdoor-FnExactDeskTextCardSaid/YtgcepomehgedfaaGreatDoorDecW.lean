/- The reference's decimal form of a number. -/
import Derived.Test.YtgcepomehgedfaaGreatDoorApp
import Derived.Test.YtgcepomehgedfaaGreatDoorDec
import Derived.Test.YtgcepomehgedfaaGreatDoorSplit
import Derived.Test.YtgcepomehgedfaaGreatDoorProg
import Derived.Laws.IdiomStrings
import Derived.IntWalk
set_option linter.unusedVariables false
set_option linter.unusedSimpArgs false
namespace Go.Proofs.YtgcepomehgedfaaGreatDoor
open Go.RowKit Go.Lib

theorem info_u8 : (Tryz.prog.info? 5).map (fun i => (i.zero, i.size, i.bytes)) = some (some (.int .u8 0), 1, 1) := by kernel_rfl
def bytesV (l : List UInt8) : List Value := l.map fun c => .int .u8 (c.toNat : Int)
theorem bytesV_len (l : List UInt8) : (bytesV l).length = l.length := by simp [bytesV]
theorem bytesV_one (l : List UInt8) : ∀ u ∈ bytesV l, u.oneCell' = true := by
  intro u hu
  simp only [bytesV, List.mem_map] at hu
  obtain ⟨c, _, rfl⟩ := hu
  rfl
theorem asBytes_app (a b : List UInt8) : asBytes a ++ asBytes b = asBytes (a ++ b) := by
  apply ByteArray.ext
  simp [asBytes, ByteArray.data_append]
theorem dig_cast {d : Nat} (h : d < 10) : ((UInt8.ofNat (48 + d)).toNat : Int) = 48 + (d : Int) := by
  have : (UInt8.ofNat (48 + d)).toNat = 48 + d := by rw [UInt8.toNat_ofNat']; omega
  rw [this]; omega

set_option maxHeartbeats 4000000 in
set_option maxRecDepth 100000 in
theorem decPos_any (n : Int) (w : World) (h0 : 0 < n) (h1 : n ≤ 9223372036854775807) :
    Calls Tryz.prog 27 #[.int .i64 n] w fun e w' => e = .returned (.string (asBytes (itoa n))) ∧ Below w.heap.size w w' := by
  obtain ⟨p, rfl⟩ : ∃ p : Nat, n = (p : Int) := ⟨n.toNat, by omega⟩
  have hit := Lib.hid (itoa_pos h0)
  have hneg : decide ((p : Int) < 0) = false := decide_eq_false (by omega)
  go_enter Tryz.func27, Tryz.ntmps27
  go_wp2
  go_loopw [3, 4, 5] (fun s k _ wr => ∃ (q : Nat) (ds : List UInt8) (g c : Nat), s = .slice (some ⟨g, 0, none⟩) ds.length c ∧ k = .int .i64 (q : Int) ∧ q ≤ p ∧ dgts p = dgts q ++ ds ∧ Sl wr w.heap.size wr.heap.size 5 1 (some ⟨g, 0, none⟩) ds.length c (bytesV ds) ∧ Below w.heap.size w wr) (fun _ k _ _ => (intOf k).toNat)
  case atStart => exact ⟨p, [], _, _, rfl, rfl, Nat.le_refl _, by simp, (Sl.made w 5 1).wide (Nat.le_refl _) (by simp), (Below.refl _ _).alloc (Nat.le_refl _) _⟩
  case round =>
    obtain ⟨q, ds, g, c, rfl, rfl, hq, hd, hs, hbel⟩ := hrel
    have hlen : ds.length ≤ 19 := by
      have h9 := dgts_len (u := p) (by omega)
      rw [hd, List.length_append] at h9
      omega
    have HD := Lib.hid hd
    have HB := Lib.hid hbel
    have zr := hbel.size
    by_cases hq0 : q = 0
    · subst hq0
      have hds : ds.length ≠ 0 := by
        intro h9
        rw [List.length_eq_zero_iff.1 h9, dgts_zero] at hd
        have := dgts_step (u := p) (by omega)
        rw [hd] at this
        simp at this
      have hds1 : decide (((ds.length : Nat) : Int) = 0) = false := decide_eq_false (by omega)
      have hds2 : ((ds.length : Int) == 0) = false := by rw [beq_eq_false_iff_ne]; omega
      have hdd : dgts p = ds := by rw [hd, dgts_zero]; rfl
      have hcv := run_convert_bytes_back (P := Tryz.prog) wr 82 9 5 ⟨g, 0, none⟩ c ds Tryz.underlying82 Tryz.underlying5 Tryz.underlying9 (fun j hj => by
        rw [add_plain, Nat.zero_add, hs.cellAt j (by rw [Nat.mul_one]; exact hj)]
        simp [bytesV, hj])
      have HR := Lib.hid (show itoa (p : Int) = ds by rw [hit.out]; simpa using hdd)
      clear hd hdd hs hbel HD
      go_wp2
      go_ret
      exact ⟨by rw [HR.out]; rfl, HB.out⟩
    · have hq1 : ((q : Int) == 0) = false := by simp; omega
      have hq2 : (0 : Int) < q := by omega
      have hq3 : (q : Int) ≤ 9223372036854775807 := by omega
      have hlow : decide ((q : Int) % 10 < 0) = false := decide_eq_false (by omega)
      have hst := Lib.hid (dgts_step hq0)
      have hdc := Lib.hid (dig_cast (d := q % 10) (by omega))
      have hc8 : IntKind.u8.wrap (48 + (q : Int) % 10) = 48 + (q : Int) % 10 := by
        unfold IntKind.wrap; simp [IntKind.bits, IntKind.signed]; omega
      have hsn := Lib.hid (Sl.on hs ((Below.refl wr.heap.size wr).alloc (Nat.le_refl _) (.cells #[.int .u8 (48 + (q : Int) % 10)] 5)))
      have acc0 := Lib.hid (Acc.start (b0 := wr.heap.size) (Sl.of_blk (lo := wr.heap.size) (hi := wr.heap.size + 1) (size := 1) (n := 1) (Blk.new wr 5 #[.int .u8 (48 + (q : Int) % 10)]) (Nat.le_refl _) (Nat.lt_succ_self _) rfl (by unfold maxLen; omega)) (fun a ha => by injection ha with ha; subst ha; rfl) (wr.heap.size + 1))
      clear hd hs hbel
      go_wp2_with (at_builtin; refine wpList_accMany rfl _ _ 82 rfl 5 _ 1 1 Tryz.underlying82 info_u8 rfl (by decide) (by decide) acc0.out (by simp) rfl g 0 ds.length c (bytesV ds) rfl (by rw [bytesV_len]; omega) (fun j u hu => by rw [Nat.zero_add, hsn.out.cellAt j (by have := (List.getElem?_eq_some_iff.1 hu).1; rw [bytesV_len] at this; omega)]; exact hu) (bytesV_one ds) (by omega) ?_; intro A2 d2 w9 hacc2; rw [Nat.add_comm 1 ds.length] at hacc2; rw [Nat.add_comm 1 ds.length]; have HA2 := Lib.hid hacc2; clear hacc2)
      have s2 := HA2.out.sl (lo := w.heap.size) (by omega) (by omega)
      obtain ⟨g2, rfl, _, _, _⟩ := s2.lt (by omega)
      have HF := Lib.hid ((HB.out.alloc zr (.cells #[.int .u8 (48 + (q : Int) % 10)] 5)).trans (HA2.out.below (by omega) (by omega)))
      have HS2 := Lib.hid s2
      clear s2
      go_wp2
      go_roundw
      case rel =>
        have he : [Value.int .u8 (48 + (q : Int) % 10)] ++ bytesV ds = bytesV (UInt8.ofNat (48 + q % 10) :: ds) := by
          show _ = Value.int .u8 _ :: bytesV ds
          rw [hdc.out]
          rfl
        have h9 := HS2.out
        rw [he] at h9
        exact ⟨q / 10, _ :: ds, g2, d2, rfl, by go_num, by omega, by rw [HD.out, hst.out, List.append_assoc]; rfl, h9, HF.out⟩
      case measure => simp [intOf]; omega

set_option maxHeartbeats 4000000 in
set_option maxRecDepth 100000 in
theorem decNeg_any (n : Int) (w : World) (h0 : n < 0) (h1 : -9223372036854775808 ≤ n) :
    Calls Tryz.prog 27 #[.int .i64 n] w fun e w' => e = .returned (.string (asBytes (itoa n))) ∧ Below w.heap.size w w' := by
  obtain ⟨p, rfl⟩ : ∃ p : Nat, n = -(p : Int) := ⟨n.natAbs, by omega⟩
  have hit := Lib.hid (show itoa (-(p : Int)) = 45 :: dgts p by rw [itoa_neg h0, Int.natAbs_neg]; rfl)
  have hneg : (0 : Int) < p := by omega
  go_enter Tryz.func27, Tryz.ntmps27
  go_wp2
  go_loopw [3, 4, 5] (fun s k _ wr => ∃ (q : Nat) (ds : List UInt8) (g c : Nat), s = .slice (some ⟨g, 0, none⟩) ds.length c ∧ k = .int .i64 (-(q : Int)) ∧ q ≤ p ∧ dgts p = dgts q ++ ds ∧ Sl wr w.heap.size wr.heap.size 5 1 (some ⟨g, 0, none⟩) ds.length c (bytesV ds) ∧ Below w.heap.size w wr) (fun _ k _ _ => (-(intOf k)).toNat)
  case atStart => exact ⟨p, [], _, _, rfl, rfl, Nat.le_refl _, by simp, (Sl.made w 5 1).wide (Nat.le_refl _) (by simp), (Below.refl _ _).alloc (Nat.le_refl _) _⟩
  case round =>
    obtain ⟨q, ds, g, c, rfl, rfl, hq, hd, hs, hbel⟩ := hrel
    have hlen : ds.length ≤ 19 := by
      have h9 := dgts_len (u := p) (by omega)
      rw [hd, List.length_append] at h9
      omega
    have HD := Lib.hid hd
    have HB := Lib.hid hbel
    have zr := hbel.size
    by_cases hq0 : q = 0
    · subst hq0
      have hds : ds.length ≠ 0 := by
        intro h9
        rw [List.length_eq_zero_iff.1 h9, dgts_zero] at hd
        have := dgts_step (u := p) (by omega)
        rw [hd] at this
        simp at this
      have hds1 : decide (((ds.length : Nat) : Int) = 0) = false := decide_eq_false (by omega)
      have hds2 : ((ds.length : Int) == 0) = false := by rw [beq_eq_false_iff_ne]; omega
      have hdd : dgts p = ds := by rw [hd, dgts_zero]; rfl
      have hcv := run_convert_bytes_back (P := Tryz.prog) wr 82 9 5 ⟨g, 0, none⟩ c ds Tryz.underlying82 Tryz.underlying5 Tryz.underlying9 (fun j hj => by
        rw [add_plain, Nat.zero_add, hs.cellAt j (by rw [Nat.mul_one]; exact hj)]
        simp [bytesV, hj])
      have HR := Lib.hid (show itoa (-(p : Int)) = [45] ++ ds by rw [hit.out, hdd]; rfl)
      clear hd hdd hs hbel HD
      go_wp2
      go_ret
      exact ⟨by rw [HR.out, ← asBytes_app]; rfl, HB.out⟩
    · have hq1 : (-(q : Int) == 0) = false := by rw [beq_eq_false_iff_ne]; omega
      have hq4 : ¬ (-(q : Int) = 0) := by omega
      have hq2 : (0 : Int) < q := by omega
      have hq3 : (q : Int) ≤ 9223372036854775808 := by omega
      by_cases hz : (q : Int) % 10 = 0
      · have hz0 := hz
        have hrm : (-(q : Int)).tmod 10 = 0 := by rw [Int.neg_tmod, Int.tmod_eq_emod_of_nonneg (by omega), hz]; rfl
        have hqu : (-(q : Int)).tdiv 10 = -((q : Int) / 10) := by rw [Int.neg_tdiv, Int.tdiv_eq_ediv_of_nonneg (by omega)]
        have hst := Lib.hid (dgts_step hq0)
        have hdc := Lib.hid (dig_cast (d := q % 10) (by omega))
        have hsn := Lib.hid (Sl.on hs ((Below.refl wr.heap.size wr).alloc (Nat.le_refl _) (.cells #[.int .u8 48] 5)))
        have acc0 := Lib.hid (Acc.start (b0 := wr.heap.size) (Sl.of_blk (lo := wr.heap.size) (hi := wr.heap.size + 1) (size := 1) (n := 1) (Blk.new wr 5 #[.int .u8 48]) (Nat.le_refl _) (Nat.lt_succ_self _) rfl (by unfold maxLen; omega)) (fun a ha => by injection ha with ha; subst ha; rfl) (wr.heap.size + 1))
        have HZ := Lib.hid hz
        clear hd hs hbel hz hz0
        go_wp2_with (at_builtin; refine wpList_accMany rfl _ _ 82 rfl 5 _ 1 1 Tryz.underlying82 info_u8 rfl (by decide) (by decide) acc0.out (by simp) rfl g 0 ds.length c (bytesV ds) rfl (by rw [bytesV_len]; omega) (fun j u hu => by rw [Nat.zero_add, hsn.out.cellAt j (by have := (List.getElem?_eq_some_iff.1 hu).1; rw [bytesV_len] at this; omega)]; exact hu) (bytesV_one ds) (by omega) ?_; intro A2 d2 w9 hacc2; rw [Nat.add_comm 1 ds.length] at hacc2; rw [Nat.add_comm 1 ds.length]; have HA2 := Lib.hid hacc2; clear hacc2)
        have s2 := HA2.out.sl (lo := w.heap.size) (by omega) (by omega)
        obtain ⟨g2, rfl, _, _, _⟩ := s2.lt (by omega)
        have HF := Lib.hid ((HB.out.alloc zr (.cells #[.int .u8 48] 5)).trans (HA2.out.below (by omega) (by omega)))
        have HS2 := Lib.hid s2
        clear s2
        go_wp2
        go_roundw
        case rel =>
          have he : [Value.int .u8 48] ++ bytesV ds = bytesV (UInt8.ofNat (48 + q % 10) :: ds) := by
            show _ = Value.int .u8 _ :: bytesV ds
            rw [hdc.out, show ((q % 10 : Nat) : Int) = 0 by have := HZ.out; omega]
            rfl
          have h9 := HS2.out
          rw [he] at h9
          exact ⟨q / 10, _ :: ds, g2, d2, rfl, by rw [Int.natCast_ediv]; rfl, by omega, by rw [HD.out, hst.out, List.append_assoc]; rfl, h9, HF.out⟩
        case measure => simp [intOf]; omega
      · have hz1 : 0 < (q : Int) % 10 := by omega
        have hrm : (-(q : Int)).tmod 10 = -((q : Int) % 10) := by rw [Int.neg_tmod, Int.tmod_eq_emod_of_nonneg (by omega)]
        have hqu : (-(q : Int)).tdiv 10 = -((q : Int) / 10) := by rw [Int.neg_tdiv, Int.tdiv_eq_ediv_of_nonneg (by omega)]
        have hst := Lib.hid (dgts_step hq0)
        have hdc := Lib.hid (dig_cast (d := q % 10) (by omega))
        have hc8 : IntKind.u8.wrap (48 + (q : Int) % 10) = 48 + (q : Int) % 10 := by
          unfold IntKind.wrap; simp [IntKind.bits, IntKind.signed]; omega
        have hsn := Lib.hid (Sl.on hs ((Below.refl wr.heap.size wr).alloc (Nat.le_refl _) (.cells #[.int .u8 (48 + (q : Int) % 10)] 5)))
        have acc0 := Lib.hid (Acc.start (b0 := wr.heap.size) (Sl.of_blk (lo := wr.heap.size) (hi := wr.heap.size + 1) (size := 1) (n := 1) (Blk.new wr 5 #[.int .u8 (48 + (q : Int) % 10)]) (Nat.le_refl _) (Nat.lt_succ_self _) rfl (by unfold maxLen; omega)) (fun a ha => by injection ha with ha; subst ha; rfl) (wr.heap.size + 1))
        clear hd hs hbel
        go_wp2_with (at_builtin; refine wpList_accMany rfl _ _ 82 rfl 5 _ 1 1 Tryz.underlying82 info_u8 rfl (by decide) (by decide) acc0.out (by simp) rfl g 0 ds.length c (bytesV ds) rfl (by rw [bytesV_len]; omega) (fun j u hu => by rw [Nat.zero_add, hsn.out.cellAt j (by have := (List.getElem?_eq_some_iff.1 hu).1; rw [bytesV_len] at this; omega)]; exact hu) (bytesV_one ds) (by omega) ?_; intro A2 d2 w9 hacc2; rw [Nat.add_comm 1 ds.length] at hacc2; rw [Nat.add_comm 1 ds.length]; have HA2 := Lib.hid hacc2; clear hacc2)
        have s2 := HA2.out.sl (lo := w.heap.size) (by omega) (by omega)
        obtain ⟨g2, rfl, _, _, _⟩ := s2.lt (by omega)
        have HF := Lib.hid ((HB.out.alloc zr (.cells #[.int .u8 (48 + (q : Int) % 10)] 5)).trans (HA2.out.below (by omega) (by omega)))
        have HS2 := Lib.hid s2
        clear s2
        go_wp2
        go_roundw
        case rel =>
          have he : [Value.int .u8 (48 + (q : Int) % 10)] ++ bytesV ds = bytesV (UInt8.ofNat (48 + q % 10) :: ds) := by
            show _ = Value.int .u8 _ :: bytesV ds
            rw [hdc.out]
            rfl
          have h9 := HS2.out
          rw [he] at h9
          exact ⟨q / 10, _ :: ds, g2, d2, rfl, by rw [Int.natCast_ediv]; rfl, by omega, by rw [HD.out, hst.out, List.append_assoc]; rfl, h9, HF.out⟩
        case measure => simp [intOf]; omega
set_option maxHeartbeats 2000000 in
set_option maxRecDepth 100000 in
theorem l01Dec_any (n : Int) (w : World) (h0 : -9223372036854775808 ≤ n) (h1 : n ≤ 9223372036854775807) :
    Calls Tryz.prog 27 #[.int .i64 n] w fun e w' => e = .returned (.string (asBytes (itoa n))) ∧ Below w.heap.size w w' := by
  rcases Int.lt_trichotomy n 0 with h | h | h
  · exact decNeg_any n w h h0
  · subst h
    rw [itoa_zero]
    go_enter Tryz.func27, Tryz.ntmps27
    go_wp2
    go_loopw [3, 4] (fun s k wr => s = .slice (some ⟨w.heap.size, 0, none⟩) 0 0 ∧ k = .int .i64 0 ∧ Below w.heap.size w wr) (fun _ k _ => (intOf k).toNat)
    case atStart => exact ⟨rfl, rfl, (Below.refl _ _).alloc (Nat.le_refl _) _⟩
    case round =>
      obtain ⟨rfl, rfl, hbel⟩ := hrel
      go_wp2
      go_ret
      exact ⟨rfl, hbel⟩
  · exact decPos_any n w h h1
end Go.Proofs.YtgcepomehgedfaaGreatDoor
