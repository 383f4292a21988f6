/- Several elements appended at once: what stands, block by block. No function of the program in sight. The reference's decimal form of a number. Runs: a way of numbers and a start; lists of them as they lie in memory; opened, sized, copied, compared. Clients: the tests of one client and of a list of clients. Runs: the law's copies and its comparison. One entry: the tests of it. -/
import Derived.Test.YtjalgpioklcbfaaGreatDoorMgConsoleAA
import Derived.Test.YtjalgpioklcbfaaGreatDoorMgConsoleAB
import Derived.Test.YtjalgpioklcbfaaGreatDoorKDec
import Derived.Test.YtjalgpioklcbfaaGreatDoorProg
import Derived.Laws.IdiomStrings
import Derived.IntWalk
import Derived.Deep.QuietTactic
import Derived.Laws.Cover1
import Derived.Deep.RegionHeld3
import Derived.BigQuiet
set_option linter.unusedVariables false
set_option linter.unusedSimpArgs false
namespace Go.Proofs.YtjalgpioklcbfaaGreatDoor
open Go.RowKit

theorem wp_manF {P : Program} {o : Oper} {a : Act} {Q : Exit → Act → World → Prop} {K : Act → World → Prop} (s x : Operand) (t : TypeId)
    (ho : o.op = .call { callee := .builtin .append, args := #[s, x], argTypes := #[t, t] })
    (e : TypeId) (zv : Value) (size bytes : Nat) (ht : P.underlying t = some (.slice e)) (hinfo : (P.info? e).map (fun i => (i.zero, i.size, i.bytes)) = some (some zv, size, bytes)) (hzs : zv.cells.size = size) (hsz : 0 < size) (hb : bytes ≤ 1000)
    {lo hi : Nat} {W : World} {A : Option Addr} {m c : Nat} {xs : List Value} (h : Sl W lo hi e size A m c xs) (hlo : lo ≤ W.heap.size) (hs : a.eval s = .slice A m c)
    (b off k d : Nat) (news : List Value) (hx : a.eval x = .slice (some ⟨b, off, none⟩) k d) (hl : news.length = k * size) (hc : ∀ j u, news[j]? = some u → W.cell? ⟨b, off + j, none⟩ = some u) (h1 : ∀ u ∈ news, u.oneCell' = true) (hk : 0 < k) (hm : m + k < 100000000)
    (HK : ∀ A' c' w1, Sl w1 lo w1.heap.size e size A' (m + k) c' (xs ++ news) → Below lo W w1 → (∀ g, g < W.heap.size → (∀ ad, A = some ad → ad.block ≠ g) → w1.heap[g]? = W.heap[g]?) → (∀ g, g < W.heap.size → (∀ ad, A = some ad → ad.block ≠ g) → ∀ ad, A' = some ad → ad.block ≠ g) → K (a.put o.dst (.slice A' (m + k) c')) w1) : o.wp P a W K Q := by
  obtain ⟨i, hi', hz, hsize, hby⟩ := info_parts hinfo
  have hAb : ∀ ad, A = some ad → lo ≤ ad.block := fun ad had => by
    rcases h.form with ⟨h0, _⟩ | ⟨g, cur, hg, h2, _⟩
    · rw [h0] at had; cases had
    · rw [hg] at had; injection had with had; subst had; exact h2
  obtain ⟨v', w', hr, h2, h3, h4, h5⟩ := run_append_own_at (P := P) W lo t o.type e i zv size bytes ht hi' hz hsize hby hzs hsz _ m xs h.1 ⟨b, off, none⟩ k d news hl (fun j u hu => by rw [add_plain]; exact hc j u hu) h1 (by unfold maxLen; omega) (by
    calc (m + k) * bytes ≤ 100000000 * 1000 := Nat.mul_le_mul (by omega) hb
      _ ≤ 140737488355328 := by decide) hlo
  unfold Oper.wp execOp
  simp only [ho, resolve, invoke, builtin, Sem.run_bind, Sem.run_pure, Result.andThen_ok, List.map_toArray, List.map_cons, List.map_nil, hs, hx, hr]
  have hfr : ∀ g, g < W.heap.size → (∀ ad, A = some ad → ad.block ≠ g) → w'.heap[g]? = W.heap[g]? := fun k hk hne => by
    rw [h3.block k hk (fun ee => ?_)]
    cases A with
    | none => simp [Value.ownBlock] at ee
    | some ad =>
      simp [Value.ownBlock] at ee
      exact hne ad rfl ee.symm
  have hbel : Below lo W w' := ⟨h3.os, h3.tape, h3.output, h3.size, fun k hk => hfr k (by omega) (fun ad had => by have := hAb ad had; omega)⟩
  rcases h2.2 with ⟨hv, hn⟩ | ⟨g, cap, cur, hv, hb', hgg, hrest'⟩
  · omega
  · subst hv
    refine HK _ _ _ ⟨h2, fun ad had => by injection had with had; subst had; exact (Array.getElem?_eq_some_iff.1 hgg).1⟩ hbel hfr (fun g' hg' hne ad had => ?_)
    injection had with had
    subst had
    rcases h5 with h5 | h5
    · cases A with
      | none => simp [Value.ownBlock] at h5
      | some ad =>
        simp [Value.ownBlock] at h5
        have := hne ad rfl
        simp; omega
    · simp [Value.ownBlock] at h5
      simp; omega
theorem wpList_manF {P : Program} {ops : Array Oper} {rest : List Oper} {o : Oper} {a : Act} {Q : Exit → Act → World → Prop} (hgd : o.guard = none) (s x : Operand) (t : TypeId)
    (ho : o.op = .call { callee := .builtin .append, args := #[s, x], argTypes := #[t, t] })
    (e : TypeId) (zv : Value) (size bytes : Nat) (ht : P.underlying t = some (.slice e)) (hinfo : (P.info? e).map (fun i => (i.zero, i.size, i.bytes)) = some (some zv, size, bytes)) (hzs : zv.cells.size = size) (hsz : 0 < size) (hb : bytes ≤ 1000)
    {lo hi : Nat} {W : World} {A : Option Addr} {m c : Nat} {xs : List Value} (h : Sl W lo hi e size A m c xs) (hlo : lo ≤ W.heap.size) (hs : a.eval s = .slice A m c)
    (b off k d : Nat) (news : List Value) (hx : a.eval x = .slice (some ⟨b, off, none⟩) k d) (hl : news.length = k * size) (hc : ∀ j u, news[j]? = some u → W.cell? ⟨b, off + j, none⟩ = some u) (h1 : ∀ u ∈ news, u.oneCell' = true) (hk : 0 < k) (hm : m + k < 100000000)
    (HK : ∀ A' c' w1, Sl w1 lo w1.heap.size e size A' (m + k) c' (xs ++ news) → Below lo W w1 → (∀ g, g < W.heap.size → (∀ ad, A = some ad → ad.block ≠ g) → w1.heap[g]? = W.heap[g]?) → (∀ g, g < W.heap.size → (∀ ad, A = some ad → ad.block ≠ g) → ∀ ad, A' = some ad → ad.block ≠ g) → wpList P ops Q rest (a.put o.dst (.slice A' (m + k) c')) w1) : wpList P ops Q (o :: rest) a W := by
  have hw : Region.wanted o (yielded ops a.tmps) = true := by simp [Region.wanted, hgd]
  unfold wpList
  rw [if_pos hw]
  refine Or.inl ?_
  exact wp_manF s x t ho e zv size bytes ht hinfo hzs hsz hb h hlo hs b off k d news hx hl hc h1 hk hm HK
theorem step_manF {P : Program} {ops : Array Oper} {o : Oper} {a : Act} {Q : Exit → Act → World → Prop} {K : Act → World → Prop} {E : Prop} (hgd : o.guard = none) (s x : Operand) (t : TypeId)
    (ho : o.op = .call { callee := .builtin .append, args := #[s, x], argTypes := #[t, t] })
    (e : TypeId) (zv : Value) (size bytes : Nat) (ht : P.underlying t = some (.slice e)) (hinfo : (P.info? e).map (fun i => (i.zero, i.size, i.bytes)) = some (some zv, size, bytes)) (hzs : zv.cells.size = size) (hsz : 0 < size) (hb : bytes ≤ 1000)
    {lo hi : Nat} {W : World} {A : Option Addr} {m c : Nat} {xs : List Value} (h : Sl W lo hi e size A m c xs) (hlo : lo ≤ W.heap.size) (hs : a.eval s = .slice A m c)
    (b off k d : Nat) (news : List Value) (hx : a.eval x = .slice (some ⟨b, off, none⟩) k d) (hl : news.length = k * size) (hc : ∀ j u, news[j]? = some u → W.cell? ⟨b, off + j, none⟩ = some u) (h1 : ∀ u ∈ news, u.oneCell' = true) (hk : 0 < k) (hm : m + k < 100000000)
    (HK : ∀ A' c' w1, Sl w1 lo w1.heap.size e size A' (m + k) c' (xs ++ news) → Below lo W w1 → (∀ g, g < W.heap.size → (∀ ad, A = some ad → ad.block ≠ g) → w1.heap[g]? = W.heap[g]?) → (∀ g, g < W.heap.size → (∀ ad, A = some ad → ad.block ≠ g) → ∀ ad, A' = some ad → ad.block ≠ g) → K (a.put o.dst (.slice A' (m + k) c')) w1) :
    if Region.wanted o (yielded ops a.tmps) = true then Oper.wp P o a W K Q else E := by
  have hw : Region.wanted o (yielded ops a.tmps) = true := by simp [Region.wanted, hgd]
  rw [if_pos hw]
  exact wp_manF s x t ho e zv size bytes ht hinfo hzs hsz hb h hlo hs b off k d news hx hl hc h1 hk hm HK
end Go.Proofs.YtjalgpioklcbfaaGreatDoor
namespace Go.Proofs.YtjalgpioklcbfaaGreatDoor
open Go.RowKit Go.Lib

theorem info_u8 : (Tryz.prog.info? 5).map (fun i => (i.zero, i.size, i.bytes)) = some (some (.int .u8 0), 1, 1) := by kernel_rfl
def bytesV (l : List UInt8) : List Value := l.map fun c => .int .u8 (c.toNat : Int)
theorem bytesV_len (l : List UInt8) : (bytesV l).length = l.length := by simp [bytesV]
theorem bytesV_one (l : List UInt8) : ∀ u ∈ bytesV l, u.oneCell' = true := by
  intro u hu
  simp only [bytesV, List.mem_map] at hu
  obtain ⟨c, _, rfl⟩ := hu
  rfl
theorem asBytes_app (a b : List UInt8) : asBytes a ++ asBytes b = asBytes (a ++ b) := by
  apply ByteArray.ext
  simp [asBytes, ByteArray.data_append]
theorem dig_cast {d : Nat} (h : d < 10) : ((UInt8.ofNat (48 + d)).toNat : Int) = 48 + (d : Int) := by
  have : (UInt8.ofNat (48 + d)).toNat = 48 + d := by rw [UInt8.toNat_ofNat']; omega
  rw [this]; omega

set_option maxHeartbeats 4000000 in
set_option maxRecDepth 100000 in
theorem decPos_any (n : Int) (w : World) (h0 : 0 < n) (h1 : n ≤ 9223372036854775807) :
    Calls Tryz.prog 173 #[.int .i64 n] w fun e w' => e = .returned (.string (asBytes (itoa n))) ∧ Below w.heap.size w w' := by
  obtain ⟨p, rfl⟩ : ∃ p : Nat, n = (p : Int) := ⟨n.toNat, by omega⟩
  have hit := Lib.hid (itoa_pos h0)
  have hneg : decide ((p : Int) < 0) = false := decide_eq_false (by omega)
  go_enter Tryz.func173, Tryz.ntmps173
  go_wp2
  go_loopw [3, 4, 5] (fun s k _ wr => ∃ (q : Nat) (ds : List UInt8) (g c : Nat), s = .slice (some ⟨g, 0, none⟩) ds.length c ∧ k = .int .i64 (q : Int) ∧ q ≤ p ∧ dgts p = dgts q ++ ds ∧ Sl wr w.heap.size wr.heap.size 5 1 (some ⟨g, 0, none⟩) ds.length c (bytesV ds) ∧ Below w.heap.size w wr) (fun _ k _ _ => (RowKit.intOf k).toNat)
  case atStart => exact ⟨p, [], _, _, rfl, rfl, Nat.le_refl _, by simp, (Sl.made w 5 1).wide (Nat.le_refl _) (by simp), (Below.refl _ _).alloc (Nat.le_refl _) _⟩
  case round =>
    obtain ⟨q, ds, g, c, rfl, rfl, hq, hd, hs, hbel⟩ := hrel
    have hlen : ds.length ≤ 19 := by
      have h9 := dgts_len (u := p) (by omega)
      rw [hd, List.length_append] at h9
      omega
    have HD := Lib.hid hd
    have HB := Lib.hid hbel
    have zr := hbel.size
    by_cases hq0 : q = 0
    · subst hq0
      have hds : ds.length ≠ 0 := by
        intro h9
        rw [List.length_eq_zero_iff.1 h9, dgts_zero] at hd
        have := dgts_step (u := p) (by omega)
        rw [hd] at this
        simp at this
      have hds1 : decide (((ds.length : Nat) : Int) = 0) = false := decide_eq_false (by omega)
      have hds2 : ((ds.length : Int) == 0) = false := by rw [beq_eq_false_iff_ne]; omega
      have hdd : dgts p = ds := by rw [hd, dgts_zero]; rfl
      have hcv := run_convert_bytes_back (P := Tryz.prog) wr 22 9 5 ⟨g, 0, none⟩ c ds Tryz.underlying22 Tryz.underlying5 Tryz.underlying9 (fun j hj => by
        rw [add_plain, Nat.zero_add, hs.cellAt j (by rw [Nat.mul_one]; exact hj)]
        simp [bytesV, hj])
      have HR := Lib.hid (show itoa (p : Int) = ds by rw [hit.out]; simpa using hdd)
      clear hd hdd hs hbel HD
      go_wp2
      go_ret
      exact ⟨by rw [HR.out]; rfl, HB.out⟩
    · have hq1 : ((q : Int) == 0) = false := by simp; omega
      have hq2 : (0 : Int) < q := by omega
      have hq3 : (q : Int) ≤ 9223372036854775807 := by omega
      have hlow : decide ((q : Int) % 10 < 0) = false := decide_eq_false (by omega)
      have hst := Lib.hid (dgts_step hq0)
      have hdc := Lib.hid (dig_cast (d := q % 10) (by omega))
      have hc8 : IntKind.u8.wrap (48 + (q : Int) % 10) = 48 + (q : Int) % 10 := by
        unfold IntKind.wrap; simp [IntKind.bits, IntKind.signed]; omega
      have hsn := Lib.hid (Sl.on hs ((Below.refl wr.heap.size wr).alloc (Nat.le_refl _) (.cells #[.int .u8 (48 + (q : Int) % 10)] 5)))
      have acc0 := Lib.hid (Acc.start (b0 := wr.heap.size) (Sl.of_blk (lo := wr.heap.size) (hi := wr.heap.size + 1) (size := 1) (n := 1) (Blk.new wr 5 #[.int .u8 (48 + (q : Int) % 10)]) (Nat.le_refl _) (Nat.lt_succ_self _) rfl (by unfold maxLen; omega)) (fun a ha => by injection ha with ha; subst ha; rfl) (wr.heap.size + 1))
      clear hd hs hbel
      go_wp2_with (at_builtin; refine wpList_accMany rfl _ _ 22 rfl 5 _ 1 1 Tryz.underlying22 info_u8 rfl (by decide) (by decide) acc0.out (by simp) rfl g 0 ds.length c (bytesV ds) rfl (by rw [bytesV_len]; omega) (fun j u hu => by rw [Nat.zero_add, hsn.out.cellAt j (by have := (List.getElem?_eq_some_iff.1 hu).1; rw [bytesV_len] at this; omega)]; exact hu) (bytesV_one ds) (by omega) ?_; intro A2 d2 w9 hacc2; rw [Nat.add_comm 1 ds.length] at hacc2; rw [Nat.add_comm 1 ds.length]; have HA2 := Lib.hid hacc2; clear hacc2)
      have s2 := HA2.out.sl (lo := w.heap.size) (by omega) (by omega)
      obtain ⟨g2, rfl, _, _, _⟩ := s2.lt (by omega)
      have HF := Lib.hid ((HB.out.alloc zr (.cells #[.int .u8 (48 + (q : Int) % 10)] 5)).trans (HA2.out.below (by omega) (by omega)))
      have HS2 := Lib.hid s2
      clear s2
      go_wp2
      go_roundw
      case rel =>
        have he : [Value.int .u8 (48 + (q : Int) % 10)] ++ bytesV ds = bytesV (UInt8.ofNat (48 + q % 10) :: ds) := by
          show _ = Value.int .u8 _ :: bytesV ds
          rw [hdc.out]
          rfl
        have h9 := HS2.out
        rw [he] at h9
        exact ⟨q / 10, _ :: ds, g2, d2, rfl, by go_num, by omega, by rw [HD.out, hst.out, List.append_assoc]; rfl, h9, HF.out⟩
      case measure => simp [RowKit.intOf]; omega

set_option maxHeartbeats 4000000 in
set_option maxRecDepth 100000 in
theorem decNeg_any (n : Int) (w : World) (h0 : n < 0) (h1 : -9223372036854775808 ≤ n) :
    Calls Tryz.prog 173 #[.int .i64 n] w fun e w' => e = .returned (.string (asBytes (itoa n))) ∧ Below w.heap.size w w' := by
  obtain ⟨p, rfl⟩ : ∃ p : Nat, n = -(p : Int) := ⟨n.natAbs, by omega⟩
  have hit := Lib.hid (show itoa (-(p : Int)) = 45 :: dgts p by rw [itoa_neg h0, Int.natAbs_neg]; rfl)
  have hneg : (0 : Int) < p := by omega
  go_enter Tryz.func173, Tryz.ntmps173
  go_wp2
  go_loopw [3, 4, 5] (fun s k _ wr => ∃ (q : Nat) (ds : List UInt8) (g c : Nat), s = .slice (some ⟨g, 0, none⟩) ds.length c ∧ k = .int .i64 (-(q : Int)) ∧ q ≤ p ∧ dgts p = dgts q ++ ds ∧ Sl wr w.heap.size wr.heap.size 5 1 (some ⟨g, 0, none⟩) ds.length c (bytesV ds) ∧ Below w.heap.size w wr) (fun _ k _ _ => (-(RowKit.intOf k)).toNat)
  case atStart => exact ⟨p, [], _, _, rfl, rfl, Nat.le_refl _, by simp, (Sl.made w 5 1).wide (Nat.le_refl _) (by simp), (Below.refl _ _).alloc (Nat.le_refl _) _⟩
  case round =>
    obtain ⟨q, ds, g, c, rfl, rfl, hq, hd, hs, hbel⟩ := hrel
    have hlen : ds.length ≤ 19 := by
      have h9 := dgts_len (u := p) (by omega)
      rw [hd, List.length_append] at h9
      omega
    have HD := Lib.hid hd
    have HB := Lib.hid hbel
    have zr := hbel.size
    by_cases hq0 : q = 0
    · subst hq0
      have hds : ds.length ≠ 0 := by
        intro h9
        rw [List.length_eq_zero_iff.1 h9, dgts_zero] at hd
        have := dgts_step (u := p) (by omega)
        rw [hd] at this
        simp at this
      have hds1 : decide (((ds.length : Nat) : Int) = 0) = false := decide_eq_false (by omega)
      have hds2 : ((ds.length : Int) == 0) = false := by rw [beq_eq_false_iff_ne]; omega
      have hdd : dgts p = ds := by rw [hd, dgts_zero]; rfl
      have hcv := run_convert_bytes_back (P := Tryz.prog) wr 22 9 5 ⟨g, 0, none⟩ c ds Tryz.underlying22 Tryz.underlying5 Tryz.underlying9 (fun j hj => by
        rw [add_plain, Nat.zero_add, hs.cellAt j (by rw [Nat.mul_one]; exact hj)]
        simp [bytesV, hj])
      have HR := Lib.hid (show itoa (-(p : Int)) = [45] ++ ds by rw [hit.out, hdd]; rfl)
      clear hd hdd hs hbel HD
      go_wp2
      go_ret
      exact ⟨by rw [HR.out, ← asBytes_app]; rfl, HB.out⟩
    · have hq1 : (-(q : Int) == 0) = false := by rw [beq_eq_false_iff_ne]; omega
      have hq4 : ¬ (-(q : Int) = 0) := by omega
      have hq2 : (0 : Int) < q := by omega
      have hq3 : (q : Int) ≤ 9223372036854775808 := by omega
      by_cases hz : (q : Int) % 10 = 0
      · have hz0 := hz
        have hrm : (-(q : Int)).tmod 10 = 0 := by rw [Int.neg_tmod, Int.tmod_eq_emod_of_nonneg (by omega), hz]; rfl
        have hqu : (-(q : Int)).tdiv 10 = -((q : Int) / 10) := by rw [Int.neg_tdiv, Int.tdiv_eq_ediv_of_nonneg (by omega)]
        have hst := Lib.hid (dgts_step hq0)
        have hdc := Lib.hid (dig_cast (d := q % 10) (by omega))
        have hsn := Lib.hid (Sl.on hs ((Below.refl wr.heap.size wr).alloc (Nat.le_refl _) (.cells #[.int .u8 48] 5)))
        have acc0 := Lib.hid (Acc.start (b0 := wr.heap.size) (Sl.of_blk (lo := wr.heap.size) (hi := wr.heap.size + 1) (size := 1) (n := 1) (Blk.new wr 5 #[.int .u8 48]) (Nat.le_refl _) (Nat.lt_succ_self _) rfl (by unfold maxLen; omega)) (fun a ha => by injection ha with ha; subst ha; rfl) (wr.heap.size + 1))
        have HZ := Lib.hid hz
        clear hd hs hbel hz hz0
        go_wp2_with (at_builtin; refine wpList_accMany rfl _ _ 22 rfl 5 _ 1 1 Tryz.underlying22 info_u8 rfl (by decide) (by decide) acc0.out (by simp) rfl g 0 ds.length c (bytesV ds) rfl (by rw [bytesV_len]; omega) (fun j u hu => by rw [Nat.zero_add, hsn.out.cellAt j (by have := (List.getElem?_eq_some_iff.1 hu).1; rw [bytesV_len] at this; omega)]; exact hu) (bytesV_one ds) (by omega) ?_; intro A2 d2 w9 hacc2; rw [Nat.add_comm 1 ds.length] at hacc2; rw [Nat.add_comm 1 ds.length]; have HA2 := Lib.hid hacc2; clear hacc2)
        have s2 := HA2.out.sl (lo := w.heap.size) (by omega) (by omega)
        obtain ⟨g2, rfl, _, _, _⟩ := s2.lt (by omega)
        have HF := Lib.hid ((HB.out.alloc zr (.cells #[.int .u8 48] 5)).trans (HA2.out.below (by omega) (by omega)))
        have HS2 := Lib.hid s2
        clear s2
        go_wp2
        go_roundw
        case rel =>
          have he : [Value.int .u8 48] ++ bytesV ds = bytesV (UInt8.ofNat (48 + q % 10) :: ds) := by
            show _ = Value.int .u8 _ :: bytesV ds
            rw [hdc.out, show ((q % 10 : Nat) : Int) = 0 by have := HZ.out; omega]
            rfl
          have h9 := HS2.out
          rw [he] at h9
          exact ⟨q / 10, _ :: ds, g2, d2, rfl, by rw [Int.natCast_ediv]; rfl, by omega, by rw [HD.out, hst.out, List.append_assoc]; rfl, h9, HF.out⟩
        case measure => simp [RowKit.intOf]; omega
      · have hz1 : 0 < (q : Int) % 10 := by omega
        have hrm : (-(q : Int)).tmod 10 = -((q : Int) % 10) := by rw [Int.neg_tmod, Int.tmod_eq_emod_of_nonneg (by omega)]
        have hqu : (-(q : Int)).tdiv 10 = -((q : Int) / 10) := by rw [Int.neg_tdiv, Int.tdiv_eq_ediv_of_nonneg (by omega)]
        have hst := Lib.hid (dgts_step hq0)
        have hdc := Lib.hid (dig_cast (d := q % 10) (by omega))
        have hc8 : IntKind.u8.wrap (48 + (q : Int) % 10) = 48 + (q : Int) % 10 := by
          unfold IntKind.wrap; simp [IntKind.bits, IntKind.signed]; omega
        have hsn := Lib.hid (Sl.on hs ((Below.refl wr.heap.size wr).alloc (Nat.le_refl _) (.cells #[.int .u8 (48 + (q : Int) % 10)] 5)))
        have acc0 := Lib.hid (Acc.start (b0 := wr.heap.size) (Sl.of_blk (lo := wr.heap.size) (hi := wr.heap.size + 1) (size := 1) (n := 1) (Blk.new wr 5 #[.int .u8 (48 + (q : Int) % 10)]) (Nat.le_refl _) (Nat.lt_succ_self _) rfl (by unfold maxLen; omega)) (fun a ha => by injection ha with ha; subst ha; rfl) (wr.heap.size + 1))
        clear hd hs hbel
        go_wp2_with (at_builtin; refine wpList_accMany rfl _ _ 22 rfl 5 _ 1 1 Tryz.underlying22 info_u8 rfl (by decide) (by decide) acc0.out (by simp) rfl g 0 ds.length c (bytesV ds) rfl (by rw [bytesV_len]; omega) (fun j u hu => by rw [Nat.zero_add, hsn.out.cellAt j (by have := (List.getElem?_eq_some_iff.1 hu).1; rw [bytesV_len] at this; omega)]; exact hu) (bytesV_one ds) (by omega) ?_; intro A2 d2 w9 hacc2; rw [Nat.add_comm 1 ds.length] at hacc2; rw [Nat.add_comm 1 ds.length]; have HA2 := Lib.hid hacc2; clear hacc2)
        have s2 := HA2.out.sl (lo := w.heap.size) (by omega) (by omega)
        obtain ⟨g2, rfl, _, _, _⟩ := s2.lt (by omega)
        have HF := Lib.hid ((HB.out.alloc zr (.cells #[.int .u8 (48 + (q : Int) % 10)] 5)).trans (HA2.out.below (by omega) (by omega)))
        have HS2 := Lib.hid s2
        clear s2
        go_wp2
        go_roundw
        case rel =>
          have he : [Value.int .u8 (48 + (q : Int) % 10)] ++ bytesV ds = bytesV (UInt8.ofNat (48 + q % 10) :: ds) := by
            show _ = Value.int .u8 _ :: bytesV ds
            rw [hdc.out]
            rfl
          have h9 := HS2.out
          rw [he] at h9
          exact ⟨q / 10, _ :: ds, g2, d2, rfl, by rw [Int.natCast_ediv]; rfl, by omega, by rw [HD.out, hst.out, List.append_assoc]; rfl, h9, HF.out⟩
        case measure => simp [RowKit.intOf]; omega
set_option maxHeartbeats 2000000 in
set_option maxRecDepth 100000 in
theorem l01Dec_any (n : Int) (w : World) (h0 : -9223372036854775808 ≤ n) (h1 : n ≤ 9223372036854775807) :
    Calls Tryz.prog 173 #[.int .i64 n] w fun e w' => e = .returned (.string (asBytes (itoa n))) ∧ Below w.heap.size w w' := by
  rcases Int.lt_trichotomy n 0 with h | h | h
  · exact decNeg_any n w h h0
  · subst h
    rw [itoa_zero]
    go_enter Tryz.func173, Tryz.ntmps173
    go_wp2
    go_loopw [3, 4] (fun s k wr => s = .slice (some ⟨w.heap.size, 0, none⟩) 0 0 ∧ k = .int .i64 0 ∧ Below w.heap.size w wr) (fun _ k _ => (RowKit.intOf k).toNat)
    case atStart => exact ⟨rfl, rfl, (Below.refl _ _).alloc (Nat.le_refl _) _⟩
    case round =>
      obtain ⟨rfl, rfl, hbel⟩ := hrel
      go_wp2
      go_ret
      exact ⟨rfl, hbel⟩
  · exact decPos_any n w h h1
end Go.Proofs.YtjalgpioklcbfaaGreatDoor
namespace Go.Proofs.YtjalgpioklcbfaaGreatDoor
open Go.RowKit Go.ChangeShapes Go.WideShapes Go.Deep

structure Rn where
  way : List Int
  st : Int
/-- The head of a run: where its way lies, and its start. -/
structure RnH where
  A : Option Addr
  m : Nat
  c : Nat
  st : Int
def cellsRn (h : RnH) : List Value := [.slice h.A h.m h.c, .int .i64 h.st]
def rns (l : List RnH) : List Value := l.flatMap cellsRn
theorem rns_length (l : List RnH) : (rns l).length = l.length * 2 := flat_length cellsRn 2 (fun _ => rfl) l
theorem rns_get {l : List RnH} {k : Nat} {x : RnH} (h : l[k]? = some x) : (rns l)[k * 2]? = some (.slice x.A x.m x.c) ∧ (rns l)[k * 2 + 1]? = some (.int .i64 x.st) :=
  ⟨flat_get cellsRn 2 (fun _ => rfl) l k x h 0 (by omega), flat_get cellsRn 2 (fun _ => rfl) l k x h 1 (by omega)⟩
/-- The head says where the run lies. -/
def RunAt (w : World) (B : Nat) (h : RnH) (r : Rn) : Prop := h.st = r.st ∧ h.m ≤ 9223372036854775807 ∧ Reads w B 1 h.A h.m (ints r.way)
def RunsR (w : World) (B : Nat) (A : Option Addr) (n : Nat) (rs : List Rn) : Prop :=
  ∃ hs : List RnH, Reads w B 2 A n (rns hs) ∧ rs.length = n ∧ ∀ (k : Nat) (h : RnH) (r : Rn), hs[k]? = some h → rs[k]? = some r → RunAt w B h r
section
variable {w w' : World} {B B' n k : Nat} {A : Option Addr} {rs : List Rn} {h : RnH} {r : Rn}
theorem RunAt.on (hr : RunAt w B h r) (hB : B ≤ w.heap.size) (hb : Below w.heap.size w w') : RunAt w' B h r := ⟨hr.1, hr.2.1, hr.2.2.on hB hb⟩
theorem RunAt.more (hr : RunAt w B h r) (hB : B ≤ B') : RunAt w B' h r := ⟨hr.1, hr.2.1, hr.2.2.more hB⟩
theorem RunsR.len (hr : RunsR w B A n rs) : rs.length = n := by obtain ⟨hs, _, h2, _⟩ := hr; exact h2
theorem RunsR.on (hr : RunsR w B A n rs) (hB : B ≤ w.heap.size) (hb : Below w.heap.size w w') : RunsR w' B A n rs := by
  obtain ⟨hs, h1, h2, h3⟩ := hr
  exact ⟨hs, h1.on hB hb, h2, fun k h r e1 e2 => (h3 k h r e1 e2).on hB hb⟩
theorem RunsR.more (hr : RunsR w B A n rs) (hB : B ≤ B') : RunsR w B' A n rs := by
  obtain ⟨hs, h1, h2, h3⟩ := hr
  exact ⟨hs, h1.more hB, h2, fun k h r e1 e2 => (h3 k h r e1 e2).more hB⟩
theorem RunsR.drewN (hr : RunsR w B A n rs) (q : Nat) : RunsR (w.drewN q) B A n rs := by
  obtain ⟨hs, h1, h2, h3⟩ := hr
  exact ⟨hs, h1.keep fun _ _ => rfl, h2, fun k h r e1 e2 => ⟨(h3 k h r e1 e2).1, (h3 k h r e1 e2).2.1, (h3 k h r e1 e2).2.2.keep fun _ _ => rfl⟩⟩
theorem run_at (hr : RunsR w B A n rs) (hk : k < n) : ∃ (r : Rn) (b off : Nat) (A' : Option Addr) (m c : Nat), rs[k]? = some r ∧ A = some ⟨b, off, none⟩ ∧ b < B ∧ w.cell? ⟨b, off + k * 2, none⟩ = some (.slice A' m c) ∧ w.cell? ⟨b, off + k * 2 + 1, none⟩ = some (.int .i64 r.st) ∧ Reads w B 1 A' m (ints r.way) ∧ m ≤ 9223372036854775807 := by
  obtain ⟨hs, h1, h2, h3⟩ := hr
  obtain ⟨b, off, rfl, hb, hcell⟩ := h1.at_ (by omega)
  have hl := h1.1
  rw [rns_length] at hl
  have he : hs[k]? = some (hs[k]'(by omega)) := List.getElem?_eq_getElem (by omega)
  have he' : rs[k]? = some (rs[k]'(by omega)) := List.getElem?_eq_getElem (by omega)
  obtain ⟨e0, e1⟩ := rns_get he
  obtain ⟨r1, r3, r2⟩ := h3 _ _ _ he he'
  exact ⟨_, b, off, _, _, _, he', rfl, hb, hcell _ _ e0, by rw [← r1]; exact hcell _ _ e1, r2, r3⟩
end

section
variable {H : Type} {enc : TypeId × Value → H} {w : World}
def Rn.good (x : RnH × List Int) (w : World) : Prop := I64 x.1.st ∧ x.1.m ≤ 9223372036854775807 ∧ Reads w w.heap.size 1 x.1.A x.1.m (ints x.2)
end

/-- The ways are short. -/
def SmallR (rs : List Rn) : Prop := ∀ (k : Nat) (r : Rn), rs[k]? = some r → r.way.length ≤ 1048576
end Go.Proofs.YtjalgpioklcbfaaGreatDoor
namespace Go.Proofs.YtjalgpioklcbfaaGreatDoor
open Go.RowKit

end Go.Proofs.YtjalgpioklcbfaaGreatDoor
namespace Go.Proofs.YtjalgpioklcbfaaGreatDoor
open Go.RowKit

theorem size_al (w : World) (o : Obj) : (w.alloc o).heap.size = w.heap.size + 1 := by simp
/-- Three blocks made: how they lie. -/
theorem three_al (w : World) (a b c : Array Value) (ta tb tc : TypeId) : ∃ W, W = ((w.alloc (.cells a ta)).alloc (.cells b tb)).alloc (.cells c tc) ∧ W.heap.size = w.heap.size + 1 + 1 + 1 ∧ Blk W w.heap.size ta a ∧ Blk W (w.heap.size + 1) tb b ∧ Blk W (w.heap.size + 1 + 1) tc c ∧ Below w.heap.size w W := by
  refine ⟨_, rfl, by simp, ((Blk.new _ _ _).alloc _).alloc _, ?_, ?_, (((Below.refl _ _).alloc (Nat.le_refl _) _).alloc (by simp) _).alloc (by simp; omega) _⟩
  · have := (Blk.new (w.alloc (.cells a ta)) tb b).alloc (.cells c tc)
    rwa [size_al] at this
  · have := Blk.new ((w.alloc (.cells a ta)).alloc (.cells b tb)) tc c
    rwa [size_al, size_al] at this

/-- How far the copying has come: the heads of the first k runs stand, their ways lie from lo on. -/
def RunsTo (w : World) (lo : Nat) (rs : List Rn) (cs : Array Value) (k : Nat) : Prop :=
  ∃ hs : List RnH, hs.length = k ∧ Fill cs (rns hs) (k * 2) ∧ ∀ (j : Nat) (h : RnH) (r : Rn), hs[j]? = some h → rs[j]? = some r → h.st = r.st ∧ h.m ≤ 9223372036854775807 ∧ Sl w lo w.heap.size 2 1 h.A h.m h.c (ints r.way)
theorem RunsTo.zero (w : World) (lo : Nat) (rs : List Rn) (cs : Array Value) : RunsTo w lo rs cs 0 := ⟨[], rfl, Fill.zero _ _, fun j h r h1 _ => by simp at h1⟩
theorem RunsTo.on {w w' : World} {lo : Nat} {rs : List Rn} {cs : Array Value} {k : Nat} (h : RunsTo w lo rs cs k) (hb : Below w.heap.size w w') : RunsTo w' lo rs cs k := by
  obtain ⟨hs, h1, h2, h3⟩ := h
  exact ⟨hs, h1, h2, fun j h r e1 e2 => ⟨(h3 j h r e1 e2).1, (h3 j h r e1 e2).2.1, ((h3 j h r e1 e2).2.2.on hb).wide (Nat.le_refl _) hb.size⟩⟩
theorem RunsTo.set_ {w : World} {lo : Nat} {rs : List Rn} {cs : Array Value} {k : Nat} (h : RunsTo w lo rs cs k) {p : Addr} (hp : p.block < lo) (u : Value) : RunsTo (w.setCell p u) lo rs cs k := by
  obtain ⟨hs, h1, h2, h3⟩ := h
  have hO : Only p.block (p.block + 1) w (w.setCell p u) := (Only.refl _ _ _).setCell (Nat.le_refl _) (Nat.lt_succ_self _) _
  exact ⟨hs, h1, h2, fun j h r e1 e2 => ⟨(h3 j h r e1 e2).1, (h3 j h r e1 e2).2.1, ((h3 j h r e1 e2).2.2.apart hO (.inr (by omega))).wide (Nat.le_refl _) hO.size⟩⟩
theorem RunsTo.step {w : World} {lo : Nat} {rs : List Rn} {cs : Array Value} {k m c : Nat} {A : Option Addr} {r : Rn} (h : RunsTo w lo rs cs k) (hr : rs[k]? = some r) (hm : m ≤ 9223372036854775807) (hd : Sl w lo w.heap.size 2 1 A m c (ints r.way)) (hcs : k * 2 + 1 < cs.size) :
    RunsTo w lo rs ((cs.setIfInBounds (k * 2) (.slice A m c)).setIfInBounds (k * 2 + 1) (.int .i64 r.st)) (k + 1) := by
  obtain ⟨hs, h1, h2, h3⟩ := h
  have hk : (hs ++ [⟨A, m, c, r.st⟩])[k]? = some (⟨A, m, c, r.st⟩ : RnH) := by rw [← h1]; simp
  have hF : Fill cs (rns (hs ++ [⟨A, m, c, r.st⟩])) (k * 2) := fun j hj => by
    rw [h2 j hj, rns, rns, List.flatMap_append, List.getElem?_append_left (by have := rns_length hs; unfold rns at this; omega)]
  obtain ⟨e0, e1⟩ := rns_get hk
  refine ⟨hs ++ [⟨A, m, c, r.st⟩], by simp [h1], ?_, fun j h r' g1 g2 => ?_⟩
  · rw [show (k + 1) * 2 = k * 2 + 1 + 1 from by omega]
    exact (hF.step e0 (by omega)).step e1 (by simp; omega)
  · by_cases e : j < hs.length
    · rw [List.getElem?_append_left e] at g1
      exact h3 j h r' g1 g2
    · have hj := (List.getElem?_eq_some_iff.1 g1).1
      simp at hj
      obtain rfl : j = k := by omega
      rw [hk] at g1
      injection g1 with g1
      subst g1
      rw [hr] at g2
      injection g2 with g2
      subst g2
      exact ⟨rfl, hm, hd⟩
/-- Runs in blocks of one's own: heads and ways in [lo, hi). -/
def RunsS (w : World) (lo hi : Nat) (A : Option Addr) (n c : Nat) (rs : List Rn) : Prop :=
  ∃ hs : List RnH, Sl w lo hi 123 2 A n c (rns hs) ∧ rs.length = n ∧ ∀ (k : Nat) (h : RnH) (r : Rn), hs[k]? = some h → rs[k]? = some r → h.st = r.st ∧ h.m ≤ 9223372036854775807 ∧ Sl w lo hi 2 1 h.A h.m h.c (ints r.way)
section
variable {w w' : World} {lo hi lo' hi' B n c : Nat} {A : Option Addr} {rs : List Rn}
theorem RunsS.on (h : RunsS w lo hi A n c rs) (hb : Below w.heap.size w w') : RunsS w' lo hi A n c rs := by
  obtain ⟨hs, h1, h2, h3⟩ := h
  exact ⟨hs, h1.on hb, h2, fun k h r e1 e2 => ⟨(h3 k h r e1 e2).1, (h3 k h r e1 e2).2.1, (h3 k h r e1 e2).2.2.on hb⟩⟩
theorem RunsS.apart (h : RunsS w lo hi A n c rs) (ho : Only lo' hi' w w') (hd : hi ≤ lo' ∨ hi' ≤ lo) : RunsS w' lo hi A n c rs := by
  obtain ⟨hs, h1, h2, h3⟩ := h
  exact ⟨hs, h1.apart ho hd, h2, fun k h r e1 e2 => ⟨(h3 k h r e1 e2).1, (h3 k h r e1 e2).2.1, (h3 k h r e1 e2).2.2.apart ho hd⟩⟩
theorem RunsS.wide (h : RunsS w lo hi A n c rs) (h1 : lo' ≤ lo) (h2 : hi ≤ hi') : RunsS w lo' hi' A n c rs := by
  obtain ⟨hs, g1, g2, g3⟩ := h
  exact ⟨hs, g1.wide h1 h2, g2, fun k h r e1 e2 => ⟨(g3 k h r e1 e2).1, (g3 k h r e1 e2).2.1, (g3 k h r e1 e2).2.2.wide h1 h2⟩⟩
theorem RunsS.reads (h : RunsS w lo hi A n c rs) (hB : hi ≤ B) : RunsR w B A n rs := by
  obtain ⟨hs, g1, g2, g3⟩ := h
  exact ⟨hs, g1.reads hB, g2, fun k h r e1 e2 => ⟨(g3 k h r e1 e2).1, (g3 k h r e1 e2).2.1, (g3 k h r e1 e2).2.2.reads hB⟩⟩
end
theorem RunsTo.done {w : World} {lo lo' : Nat} {rs : List Rn} {cs : Array Value} {k g : Nat} (h : RunsTo w lo rs cs k) (hb : Blk w g 123 cs) (hc : cs.size = k * 2) (hr : rs.length = k) (h1 : lo' ≤ g) (h2 : lo' ≤ lo) (hk : k ≤ maxLen) : RunsS w lo' w.heap.size (some ⟨g, 0, none⟩) k k rs := by
  obtain ⟨hs, g1, g2, g3⟩ := h
  have hg := hb.lt
  refine ⟨hs, ?_, hr, fun j h r e1 e2 => ⟨(g3 j h r e1 e2).1, (g3 j h r e1 e2).2.1, (g3 j h r e1 e2).2.2.wide h2 (Nat.le_refl _)⟩⟩
  rw [g2.done hc (by rw [rns_length]; omega)] at hb
  exact Sl.of_blk hb h1 hg (by rw [rns_length]; omega) hk

end Go.Proofs.YtjalgpioklcbfaaGreatDoor
namespace Go.Proofs.YtjalgpioklcbfaaGreatDoor
open Go.RowKit

def okEn (x : En) : Bool := inR x.day 0 100000 && isName x.what && inR x.val (-1000000) 1000000
theorem l27Ok_any (x : En) (b : Nat) (w : World) (hs : x.what.size ≤ 9223372036854775807) (c0 : w.cell? ⟨b, 0, none⟩ = some (.int .i64 x.day)) (c1 : w.cell? ⟨b, 1, none⟩ = some (.string x.what)) (c2 : w.cell? ⟨b, 2, none⟩ = some (.int .i64 x.val)) :
    Calls Tryz.prog 230 #[.pointer (some ⟨b, 0, none⟩)] w fun e w' => e = .returned (.bool (okEn x)) ∧ w = w' := by
  by_cases h1 : inR x.day 0 100000 = true
  · by_cases h2 : isName x.what = true
    · by_cases h3 : inR x.val (-1000000) 1000000 = true
      · have HO := Lib.hid (show okEn x = true by simp [okEn, h1, h2, h3])
        go_enter Tryz.func230, Tryz.ntmps230
        go_wp2_with (first | (go_at_call 277; refine (l27Day_any _ _).mono ?_; rintro e w' ⟨rfl, rfl⟩) | (go_at_call 278; refine (specIsName_any _ _ hs).mono ?_; rintro e w' ⟨rfl, rfl⟩) | (go_at_call 164; refine (l00In_any _ _ _ _).mono ?_; rintro e w' ⟨rfl, rfl⟩))
        go_ret
        exact ⟨ret_bool HO.out.symm, rfl⟩
      · have h3 : inR x.val (-1000000) 1000000 = false := by simpa using h3
        have HO := Lib.hid (show okEn x = false by simp [okEn, h3])
        go_enter Tryz.func230, Tryz.ntmps230
        go_wp2_with (first | (go_at_call 277; refine (l27Day_any _ _).mono ?_; rintro e w' ⟨rfl, rfl⟩) | (go_at_call 278; refine (specIsName_any _ _ hs).mono ?_; rintro e w' ⟨rfl, rfl⟩) | (go_at_call 164; refine (l00In_any _ _ _ _).mono ?_; rintro e w' ⟨rfl, rfl⟩))
        go_ret
        exact ⟨ret_bool HO.out.symm, rfl⟩
    · have h2 : isName x.what = false := by simpa using h2
      have HO := Lib.hid (show okEn x = false by simp [okEn, h2])
      go_enter Tryz.func230, Tryz.ntmps230
      go_wp2_with (first | (go_at_call 277; refine (l27Day_any _ _).mono ?_; rintro e w' ⟨rfl, rfl⟩) | (go_at_call 278; refine (specIsName_any _ _ hs).mono ?_; rintro e w' ⟨rfl, rfl⟩) | (go_at_call 164; refine (l00In_any _ _ _ _).mono ?_; rintro e w' ⟨rfl, rfl⟩))
      go_ret
      exact ⟨ret_bool HO.out.symm, rfl⟩
  · have h1 : inR x.day 0 100000 = false := by simpa using h1
    have HO := Lib.hid (show okEn x = false by simp [okEn, h1])
    go_enter Tryz.func230, Tryz.ntmps230
    go_wp2_with (first | (go_at_call 277; refine (l27Day_any _ _).mono ?_; rintro e w' ⟨rfl, rfl⟩) | (go_at_call 278; refine (specIsName_any _ _ hs).mono ?_; rintro e w' ⟨rfl, rfl⟩) | (go_at_call 164; refine (l00In_any _ _ _ _).mono ?_; rintro e w' ⟨rfl, rfl⟩))
    go_ret
    exact ⟨ret_bool HO.out.symm, rfl⟩
theorem implValidEntry_any (x : En) (w : World) (hx : x.good) (hsm : x.small) :
    Calls Tryz.prog 223 #[.agg #[.int .i64 x.day, .string x.what, .int .i64 x.val]] w fun e w' => e = .returned (.bool (okEn x)) ∧ Below w.heap.size w w' := by
  have hs : x.what.size ≤ 9223372036854775807 := by unfold En.small at hsm; omega
  clear hsm hx
  by_cases h1 : inR x.day 0 100000 = true
  · by_cases h2 : isName x.what = true
    · by_cases h3 : inR x.val (-1000000) 1000000 = true
      · have HO := Lib.hid (show okEn x = true by simp [okEn, h1, h2, h3])
        go_enter Tryz.func223, Tryz.ntmps223
        go_wp2_with (first | (go_at_call 160; refine (implIsName_any _ _ hs).mono ?_; rintro e w' ⟨rfl, rfl⟩) | (go_at_call 79; refine (within_any _ _ _ _).mono ?_; rintro e w' ⟨rfl, rfl⟩))
        go_ret
        exact ⟨ret_bool HO.out.symm, (Below.refl _ _).alloc (Nat.le_refl _) _⟩
      · have h3 : inR x.val (-1000000) 1000000 = false := by simpa using h3
        have HO := Lib.hid (show okEn x = false by simp [okEn, h3])
        go_enter Tryz.func223, Tryz.ntmps223
        go_wp2_with (first | (go_at_call 160; refine (implIsName_any _ _ hs).mono ?_; rintro e w' ⟨rfl, rfl⟩) | (go_at_call 79; refine (within_any _ _ _ _).mono ?_; rintro e w' ⟨rfl, rfl⟩))
        go_ret
        exact ⟨ret_bool HO.out.symm, (Below.refl _ _).alloc (Nat.le_refl _) _⟩
    · have h2 : isName x.what = false := by simpa using h2
      have HO := Lib.hid (show okEn x = false by simp [okEn, h2])
      go_enter Tryz.func223, Tryz.ntmps223
      go_wp2_with (first | (go_at_call 160; refine (implIsName_any _ _ hs).mono ?_; rintro e w' ⟨rfl, rfl⟩) | (go_at_call 79; refine (within_any _ _ _ _).mono ?_; rintro e w' ⟨rfl, rfl⟩))
      go_ret
      exact ⟨ret_bool HO.out.symm, (Below.refl _ _).alloc (Nat.le_refl _) _⟩
  · have h1 : inR x.day 0 100000 = false := by simpa using h1
    have HO := Lib.hid (show okEn x = false by simp [okEn, h1])
    go_enter Tryz.func223, Tryz.ntmps223
    go_wp2_with (first | (go_at_call 160; refine (implIsName_any _ _ hs).mono ?_; rintro e w' ⟨rfl, rfl⟩) | (go_at_call 79; refine (within_any _ _ _ _).mono ?_; rintro e w' ⟨rfl, rfl⟩))
    go_ret
    exact ⟨ret_bool HO.out.symm, (Below.refl _ _).alloc (Nat.le_refl _) _⟩
end Go.Proofs.YtjalgpioklcbfaaGreatDoor
