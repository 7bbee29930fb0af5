/- SetS, SetF, SetG. -/
import Derived.Test.YtfhpaehfihnjaaaGreatSetM
import Derived.Test.YtfhpaehfihnjaaaGreatUPrS
import Derived.Test.YtfhpaehfihnjaaaGreatUPa
import Derived.Test.YtfhpaehfihnjaaaGreatURa
import Derived.Test.YtfhpaehfihnjaaaGreatTA
import Derived.Test.YtfhpaehfihnjaaaGreatDD
set_option maxRecDepth 100000
namespace Go.Proofs.YtfhpaehfihnjaaaGreat
open Go.RowKit
def devT : Dev → TypeId
  | .reader .. => 86
  | .punch .. => 88
  | .printer .. => 90
  | .tape .. => 60
  | .disk .. => 92
def ptrV (b : Nat) : Value := .pointer (some ⟨b, 0, none⟩)
def ptrs (bs : List (Nat × Nat)) : List Value := bs.map fun q => ptrV q.1
def devV (b : Nat) (d : Dev) : Value := .iface (devT d) (.pointer (some ⟨b, 0, none⟩))
def devS (b : Nat) : Dev → SA
  | .reader se tk st cs => U.readerS b se tk st cs
  | .punch se cs => U.punchS b se cs
  | .printer s => U.printS b s
  | .tape n s => T.tapeS b n s
  | .disk s => D.diskS b s
def oneCells (db : Nat) (u : UN) : Array Value := #[.int .i64 u.conf.addr, .int .i64 u.conf.kind, .string u.conf.serial, .int .i64 u.conf.cyls, .int .i64 u.conf.heads, devV db u.dev, .int .i64 (u.after : Int), .int .i64 (u.times : Int), .bool u.equip]
def oneS (p : Nat × Nat) (u : UN) : SA := star [cel p.1 (oneCells p.2 u) 80, devS p.2 u.dev]
def lastV (bs : List (Nat × Nat)) : Option Nat → Value
  | none => .pointer none
  | some i => match bs[i]? with
    | some p => ptrV p.1
    | none => .pointer none
def setO (x : Nat) (v : Value) (bs : List (Nat × Nat)) (s : ST) : SA := fun h => bs.length = s.us.length ∧
  star [cel x #[v, lastV bs s.last, .bool s.off] 72, rowS 70 1 v s.us.length (ptrs bs), star (List.zipWith oneS bs s.us)] h
section
variable {W w : World} {F : List SA} {x : Nat} {v : Value} {bs : List (Nat × Nat)} {s : ST}
theorem set_open (S : SL W (setO x v bs s :: F) w) : bs.length = s.us.length ∧ SL W (cel x #[v, lastV bs s.last, .bool s.off] 72 :: rowS 70 1 v s.us.length (ptrs bs) :: star (List.zipWith oneS bs s.us) :: F) w := by
  obtain ⟨_, h1, h⟩ := S.unpack (α := Unit) (φ := fun _ => bs.length = s.us.length) (K := fun _ => [cel x #[v, lastV bs s.last, .bool s.off] 72, rowS 70 1 v s.us.length (ptrs bs), star (List.zipWith oneS bs s.us)]) (fun h p => ⟨(), p⟩)
  exact ⟨h1, h⟩
theorem set_close (hb : bs.length = s.us.length) (S : SL W (cel x #[v, lastV bs s.last, .bool s.off] 72 :: rowS 70 1 v s.us.length (ptrs bs) :: star (List.zipWith oneS bs s.us) :: F) w) : SL W (setO x v bs s :: F) w :=
  SL.pack (L := [cel x #[v, lastV bs s.last, .bool s.off] 72, rowS 70 1 v s.us.length (ptrs bs), star (List.zipWith oneS bs s.us)]) S fun _ h => ⟨hb, h⟩
theorem zip_get {us : List UN} {i : Nat} {p : Nat × Nat} {u : UN} (hp : bs[i]? = some p) (hu : us[i]? = some u) : (List.zipWith oneS bs us)[i]? = some (oneS p u) := by
  rw [List.getElem?_zipWith, hp, hu]
theorem zip_set : ∀ {bs : List (Nat × Nat)} {us : List UN} {i : Nat} {p : Nat × Nat} {u : UN}, bs[i]? = some p → (List.zipWith oneS bs us).set i (oneS p u) = List.zipWith oneS bs (us.set i u)
  | [], _, _, _, _, h => by simp at h
  | _ :: _, [], _, _, _, _ => by simp
  | a :: bs, b :: us, 0, p, u, h => by
    simp at h
    subst h
    simp
  | a :: bs, b :: us, i + 1, p, u, h => by
    have h' : bs[i]? = some p := by simpa using h
    simp [zip_set (us := us) (u := u) h']
theorem one_open {us : List UN} {i b db : Nat} {u : UN} (hp : bs[i]? = some (b, db)) (hu : us[i]? = some u) (S : SL W (star (List.zipWith oneS bs us) :: F) w) :
    SL W (cel b (oneCells db u) 80 :: devS db u.dev :: star ((List.zipWith oneS bs us).eraseIdx i) :: F) w :=
  (S.take (zip_get hp hu)).spill
theorem one_close {us : List UN} {i b db : Nat} {u : UN} (hp : bs[i]? = some (b, db)) (hi : i < us.length) (S : SL W (cel b (oneCells db u) 80 :: devS db u.dev :: star ((List.zipWith oneS bs us).eraseIdx i) :: F) w) :
    SL W (star (List.zipWith oneS bs (us.set i u)) :: F) w := by
  have h := SL.put (SL.app (L := [cel b (oneCells db u) 80, devS db u.dev]) S) (i := i) (by rw [List.length_zipWith]; have := (List.getElem?_eq_some_iff.1 hp).1; omega)
  rw [show star [cel b (oneCells db u) 80, devS db u.dev] = oneS (b, db) u from rfl, zip_set hp] at h
  exact h
theorem set_same {us : List UN} {i : Nat} {u : UN} (h : us[i]? = some u) : us.set i u = us := by
  obtain ⟨hi, e⟩ := List.getElem?_eq_some_iff.1 h
  rw [← e]; simp
theorem one_same {us : List UN} {i b db : Nat} {u : UN} (hp : bs[i]? = some (b, db)) (hu : us[i]? = some u) (S : SL W (cel b (oneCells db u) 80 :: devS db u.dev :: star ((List.zipWith oneS bs us).eraseIdx i) :: F) w) :
    SL W (star (List.zipWith oneS bs us) :: F) w := by
  have h := one_close hp (List.getElem?_eq_some_iff.1 hu).1 S
  rwa [set_same hu] at h
theorem bs_get {us : List UN} {i : Nat} {u : UN} (hb : bs.length = us.length) (hu : us[i]? = some u) : ∃ b db, bs[i]? = some (b, db) := by
  have hi := (List.getElem?_eq_some_iff.1 hu).1
  exact ⟨(bs[i]'(by omega)).1, (bs[i]'(by omega)).2, List.getElem?_eq_getElem (by omega)⟩
theorem lastV_some {i : Nat} {p : Nat × Nat} (h : bs[i]? = some p) : lastV bs (some i) = ptrV p.1 := by simp [lastV, h]
end
end Go.Proofs.YtfhpaehfihnjaaaGreat
namespace Go.Proofs.YtfhpaehfihnjaaaGreat
open Go.RowKit
section
variable {W w : World} {F : List SA} {x : Nat} {v : Value} {bs : List (Nat × Nat)} {s : ST}
set_option maxHeartbeats 4000000 in
theorem find_any (addr : Int) (hz : s.us.length ≤ 16) (S : SL W (setO x v bs s :: F) w) : Calls Tryz.prog 24 #[.pointer (some ⟨x, 0, none⟩), .int .i64 addr] w fun e w' => e = .returned (lastV bs (s.find addr)) ∧ w' = w := by
  obtain ⟨hb, S1⟩ := set_open S
  obtain ⟨L, K, z⟩ := S1.look
  have L0 : w.cell? ⟨x, 0, none⟩ = some v := L 0
  obtain ⟨Av, cv, rfl, _, _⟩ := own_slice S1.s1.own
  have HS := Lib.hid S1
  have HB := Lib.hid hb
  clear S S1 L K hb
  unfold ST.find
  generalize lastV bs s.last = lv at *
  obtain ⟨us, la, off⟩ := s
  dsimp only at *
  go_enter Tryz.func24, Tryz.ntmps24
  go_wp2_with fail
  go_loopw [14] (fun i wr => ∃ k : Nat, k ≤ us.length ∧ i = .int .i64 k ∧ (∀ j y, j < k → us[j]? = some y → decide (y.conf.addr = addr) = false) ∧ wr = w) (fun i _ => us.length - (intOf i).toNat)
  case atStart => exact ⟨0, Nat.zero_le _, rfl, fun j y h => absurd h (by omega), rfl⟩
  case round =>
    obtain ⟨k, hk, rfl, hok, rfl⟩ := hrel
    have HOK := Lib.hid hok
    clear hok
    by_cases hlt : k < us.length
    · have hx : us[k]? = some us[k] := by simp [hlt]
      generalize us[k] = u at hx
      obtain ⟨b, db, hp⟩ := bs_get HB.out hx
      obtain ⟨g, rfl, _, ck⟩ := HS.out.s1.cellAt (j := k) (u := ptrV b) (by unfold ptrs; rw [List.getElem?_map, hp]; rfl)
      obtain ⟨L1, _, _⟩ := (one_open hp hx HS.out.s2).look
      have L2 : wr.cell? ⟨b, 0, none⟩ = some (.int .i64 u.conf.addr) := L1 0
      have HX := Lib.hid hx
      have HP := Lib.hid hp
      clear hx hp L1 HS
      unfold ptrV at ck
      cases hq : decide (u.conf.addr = addr)
      · have HQ := Lib.hid hq
        have hq' : (u.conf.addr == addr) = false := by simpa using hq
        clear hq
        go_wp2
        go_roundw
        case rel => exact ⟨k + 1, by omega, by go_num, fun j y hj hy => (by
          rcases Nat.lt_succ_iff_lt_or_eq.1 hj with h | rfl
          · exact HOK.out j y h hy
          · have hx := HX.out
            rw [hy] at hx; injection hx with hx; subst hx; exact HQ.out), trivial⟩
        case measure => simp [intOf]; omega
      · have HF := Lib.hid (show us.findIdx? (fun u => decide (u.conf.addr = addr)) = some k from D.findIdx_some HX.out hq HOK.out)
        have hq' : (u.conf.addr == addr) = true := by simpa using hq
        clear hq
        go_wp2
        go_ret
        exact ⟨by rw [HF.out, lastV_some HP.out]; rfl, rfl⟩
    · obtain rfl : k = us.length := by omega
      have HF := Lib.hid (show us.findIdx? (fun u => decide (u.conf.addr = addr)) = none from D.findIdx_none HOK.out)
      go_wp2
      go_ret
      exact ⟨by rw [HF.out]; rfl, rfl⟩
end
end Go.Proofs.YtfhpaehfihnjaaaGreat
namespace Go.Proofs.YtfhpaehfihnjaaaGreat
open Go.RowKit
def getP (k : Int) (bs : List (Nat × Nat)) (s : ST) (addr : Int) : Value :=
  match s.find addr with
  | none => .pointer none
  | some i => match bs[i]?, s.us[i]? with
    | some p, some u => if u.dev.kind = k then ptrV p.2 else .pointer none
    | _, _ => .pointer none
def kindN (s : ST) (addr : Int) : Int :=
  match s.find addr with
  | none => 0
  | some i => match s.us[i]? with
    | some u => u.conf.kind
    | none => 0
theorem getP_none {k : Int} {bs : List (Nat × Nat)} {s : ST} {addr : Int} (h : s.find addr = none) : getP k bs s addr = .pointer none := by unfold getP; rw [h]
theorem getP_some {k : Int} {bs : List (Nat × Nat)} {s : ST} {addr : Int} {i : Nat} {p : Nat × Nat} {u : UN} (h : s.find addr = some i) (hp : bs[i]? = some p) (hu : s.us[i]? = some u) : getP k bs s addr = if u.dev.kind = k then ptrV p.2 else .pointer none := by unfold getP; rw [h]; simp [hp, hu]
theorem find_get {s : ST} {addr : Int} {i : Nat} (h : s.find addr = some i) : ∃ u, s.us[i]? = some u ∧ u.conf.addr = addr := by
  unfold ST.find at h
  rw [List.findIdx?_eq_some_iff_getElem] at h
  obtain ⟨hi, h, _⟩ := h
  exact ⟨s.us[i], List.getElem?_eq_getElem hi, by simpa using h⟩
section
variable {W w : World} {F : List SA} {x : Nat} {v : Value} {bs : List (Nat × Nat)} {s : ST}
set_option maxHeartbeats 2000000 in
theorem kind_any (addr : Int) (hz : s.us.length ≤ 16) (S : SL W (setO x v bs s :: F) w) : Calls Tryz.prog 11 #[.pointer (some ⟨x, 0, none⟩), .int .i64 addr] w fun e w' => e = .returned (.int .i64 (kindN s addr)) ∧ w' = w := by
  have HF := Lib.hid (find_any addr hz S)
  unfold kindN
  cases hf : s.find addr with
  | none =>
    rw [hf] at HF
    simp only [lastV] at HF
    clear S
    go_enter Tryz.func11, Tryz.ntmps11
    go_wp2_with fail
    refine HF.out.mono ?_
    rintro e w1 ⟨rfl, rfl⟩
    go_wp2
    go_ret
    exact ⟨rfl, rfl⟩
  | some i =>
    obtain ⟨u, hu, _⟩ := find_get hf
    obtain ⟨hb, S1⟩ := set_open S
    obtain ⟨b, db, hp⟩ := bs_get hb hu
    rw [hf, lastV_some hp] at HF
    unfold ptrV at HF
    obtain ⟨L, _, _⟩ := (one_open hp hu S1.s2).look
    have L1 : w.cell? ⟨b, 1, none⟩ = some (.int .i64 u.conf.kind) := L 1
    simp only [hu]
    clear S S1 L hp hu hf
    go_enter Tryz.func11, Tryz.ntmps11
    go_wp2_with fail
    refine HF.out.mono ?_
    rintro e w1 ⟨rfl, rfl⟩
    go_wp2
    go_ret
    exact ⟨rfl, rfl⟩
set_option maxHeartbeats 2000000 in
theorem down_any (S : SL W (setO x v bs s :: F) w) : Calls Tryz.prog 9 #[.pointer (some ⟨x, 0, none⟩)] w fun e w' => e = .returned (.bool s.off) ∧ w' = w := by
  obtain ⟨_, S1⟩ := set_open S
  obtain ⟨L, K, z⟩ := S1.look
  have L2 : w.cell? ⟨x, 2, none⟩ = some (.bool s.off) := L 2
  clear S S1 L
  go_enter Tryz.func9, Tryz.ntmps9
  go_wp2
  go_ret
  exact ⟨rfl, rfl⟩
theorem as_1 (d : Dev) (a : Option Addr) (w : World) : (Instr.typeAssert (.iface (devT d) (.pointer a)) 75 86 true).run Tryz.prog w = .ok (.tuple #[if d.kind = 1 then .pointer a else .pointer none, .bool (decide (d.kind = 1))]) w := by cases d <;> kernel_rfl
set_option maxHeartbeats 2000000 in
theorem getReader_any (addr : Int) (hz : s.us.length ≤ 16) (S : SL W (setO x v bs s :: F) w) : Calls Tryz.prog 29 #[.pointer (some ⟨x, 0, none⟩), .int .i64 addr] w fun e w' => e = .returned (getP 1 bs s addr) ∧ w' = w := by
  have HF := Lib.hid (find_any addr hz S)
  cases hf : s.find addr with
  | none =>
    rw [getP_none hf]
    rw [hf] at HF
    simp only [lastV] at HF
    clear S
    go_enter Tryz.func29, Tryz.ntmps29
    go_wp2_with fail
    refine HF.out.mono ?_
    rintro e w1 ⟨rfl, rfl⟩
    go_wp2
    go_ret
    exact ⟨rfl, rfl⟩
  | some i =>
    obtain ⟨u, hu, _⟩ := find_get hf
    obtain ⟨hb, S1⟩ := set_open S
    obtain ⟨b, db, hp⟩ := bs_get hb hu
    rw [getP_some hf hp hu]
    rw [hf, lastV_some hp] at HF
    unfold ptrV at HF
    obtain ⟨L, _, _⟩ := (one_open hp hu S1.s2).look
    have L5 : w.cell? ⟨b, 5, none⟩ = some (.iface (devT u.dev) (.pointer (some ⟨db, 0, none⟩))) := L 5
    have h1 := as_1 u.dev (some ⟨db, 0, none⟩)
    unfold ptrV
    generalize (if u.dev.kind = 1 then Value.pointer (some ⟨db, 0, none⟩) else .pointer none) = R at *
    generalize decide (u.dev.kind = 1) = q at *
    clear S S1 L hp hu hf
    go_enter Tryz.func29, Tryz.ntmps29
    go_wp2_with fail
    refine HF.out.mono ?_
    rintro e w1 ⟨rfl, rfl⟩
    go_wp2
    go_ret
    exact ⟨rfl, rfl⟩
theorem as_2 (d : Dev) (a : Option Addr) (w : World) : (Instr.typeAssert (.iface (devT d) (.pointer a)) 75 88 true).run Tryz.prog w = .ok (.tuple #[if d.kind = 2 then .pointer a else .pointer none, .bool (decide (d.kind = 2))]) w := by cases d <;> kernel_rfl
set_option maxHeartbeats 2000000 in
theorem getPunch_any (addr : Int) (hz : s.us.length ≤ 16) (S : SL W (setO x v bs s :: F) w) : Calls Tryz.prog 30 #[.pointer (some ⟨x, 0, none⟩), .int .i64 addr] w fun e w' => e = .returned (getP 2 bs s addr) ∧ w' = w := by
  have HF := Lib.hid (find_any addr hz S)
  cases hf : s.find addr with
  | none =>
    rw [getP_none hf]
    rw [hf] at HF
    simp only [lastV] at HF
    clear S
    go_enter Tryz.func30, Tryz.ntmps30
    go_wp2_with fail
    refine HF.out.mono ?_
    rintro e w1 ⟨rfl, rfl⟩
    go_wp2
    go_ret
    exact ⟨rfl, rfl⟩
  | some i =>
    obtain ⟨u, hu, _⟩ := find_get hf
    obtain ⟨hb, S1⟩ := set_open S
    obtain ⟨b, db, hp⟩ := bs_get hb hu
    rw [getP_some hf hp hu]
    rw [hf, lastV_some hp] at HF
    unfold ptrV at HF
    obtain ⟨L, _, _⟩ := (one_open hp hu S1.s2).look
    have L5 : w.cell? ⟨b, 5, none⟩ = some (.iface (devT u.dev) (.pointer (some ⟨db, 0, none⟩))) := L 5
    have h1 := as_2 u.dev (some ⟨db, 0, none⟩)
    unfold ptrV
    generalize (if u.dev.kind = 2 then Value.pointer (some ⟨db, 0, none⟩) else .pointer none) = R at *
    generalize decide (u.dev.kind = 2) = q at *
    clear S S1 L hp hu hf
    go_enter Tryz.func30, Tryz.ntmps30
    go_wp2_with fail
    refine HF.out.mono ?_
    rintro e w1 ⟨rfl, rfl⟩
    go_wp2
    go_ret
    exact ⟨rfl, rfl⟩
theorem as_3 (d : Dev) (a : Option Addr) (w : World) : (Instr.typeAssert (.iface (devT d) (.pointer a)) 75 90 true).run Tryz.prog w = .ok (.tuple #[if d.kind = 3 then .pointer a else .pointer none, .bool (decide (d.kind = 3))]) w := by cases d <;> kernel_rfl
set_option maxHeartbeats 2000000 in
theorem getPrinter_any (addr : Int) (hz : s.us.length ≤ 16) (S : SL W (setO x v bs s :: F) w) : Calls Tryz.prog 31 #[.pointer (some ⟨x, 0, none⟩), .int .i64 addr] w fun e w' => e = .returned (getP 3 bs s addr) ∧ w' = w := by
  have HF := Lib.hid (find_any addr hz S)
  cases hf : s.find addr with
  | none =>
    rw [getP_none hf]
    rw [hf] at HF
    simp only [lastV] at HF
    clear S
    go_enter Tryz.func31, Tryz.ntmps31
    go_wp2_with fail
    refine HF.out.mono ?_
    rintro e w1 ⟨rfl, rfl⟩
    go_wp2
    go_ret
    exact ⟨rfl, rfl⟩
  | some i =>
    obtain ⟨u, hu, _⟩ := find_get hf
    obtain ⟨hb, S1⟩ := set_open S
    obtain ⟨b, db, hp⟩ := bs_get hb hu
    rw [getP_some hf hp hu]
    rw [hf, lastV_some hp] at HF
    unfold ptrV at HF
    obtain ⟨L, _, _⟩ := (one_open hp hu S1.s2).look
    have L5 : w.cell? ⟨b, 5, none⟩ = some (.iface (devT u.dev) (.pointer (some ⟨db, 0, none⟩))) := L 5
    have h1 := as_3 u.dev (some ⟨db, 0, none⟩)
    unfold ptrV
    generalize (if u.dev.kind = 3 then Value.pointer (some ⟨db, 0, none⟩) else .pointer none) = R at *
    generalize decide (u.dev.kind = 3) = q at *
    clear S S1 L hp hu hf
    go_enter Tryz.func31, Tryz.ntmps31
    go_wp2_with fail
    refine HF.out.mono ?_
    rintro e w1 ⟨rfl, rfl⟩
    go_wp2
    go_ret
    exact ⟨rfl, rfl⟩
theorem as_4 (d : Dev) (a : Option Addr) (w : World) : (Instr.typeAssert (.iface (devT d) (.pointer a)) 75 60 true).run Tryz.prog w = .ok (.tuple #[if d.kind = 4 then .pointer a else .pointer none, .bool (decide (d.kind = 4))]) w := by cases d <;> kernel_rfl
set_option maxHeartbeats 2000000 in
theorem getTape_any (addr : Int) (hz : s.us.length ≤ 16) (S : SL W (setO x v bs s :: F) w) : Calls Tryz.prog 19 #[.pointer (some ⟨x, 0, none⟩), .int .i64 addr] w fun e w' => e = .returned (getP 4 bs s addr) ∧ w' = w := by
  have HF := Lib.hid (find_any addr hz S)
  cases hf : s.find addr with
  | none =>
    rw [getP_none hf]
    rw [hf] at HF
    simp only [lastV] at HF
    clear S
    go_enter Tryz.func19, Tryz.ntmps19
    go_wp2_with fail
    refine HF.out.mono ?_
    rintro e w1 ⟨rfl, rfl⟩
    go_wp2
    go_ret
    exact ⟨rfl, rfl⟩
  | some i =>
    obtain ⟨u, hu, _⟩ := find_get hf
    obtain ⟨hb, S1⟩ := set_open S
    obtain ⟨b, db, hp⟩ := bs_get hb hu
    rw [getP_some hf hp hu]
    rw [hf, lastV_some hp] at HF
    unfold ptrV at HF
    obtain ⟨L, _, _⟩ := (one_open hp hu S1.s2).look
    have L5 : w.cell? ⟨b, 5, none⟩ = some (.iface (devT u.dev) (.pointer (some ⟨db, 0, none⟩))) := L 5
    have h1 := as_4 u.dev (some ⟨db, 0, none⟩)
    unfold ptrV
    generalize (if u.dev.kind = 4 then Value.pointer (some ⟨db, 0, none⟩) else .pointer none) = R at *
    generalize decide (u.dev.kind = 4) = q at *
    clear S S1 L hp hu hf
    go_enter Tryz.func19, Tryz.ntmps19
    go_wp2_with fail
    refine HF.out.mono ?_
    rintro e w1 ⟨rfl, rfl⟩
    go_wp2
    go_ret
    exact ⟨rfl, rfl⟩
theorem as_5 (d : Dev) (a : Option Addr) (w : World) : (Instr.typeAssert (.iface (devT d) (.pointer a)) 75 92 true).run Tryz.prog w = .ok (.tuple #[if d.kind = 5 then .pointer a else .pointer none, .bool (decide (d.kind = 5))]) w := by cases d <;> kernel_rfl
set_option maxHeartbeats 2000000 in
theorem getDisk_any (addr : Int) (hz : s.us.length ≤ 16) (S : SL W (setO x v bs s :: F) w) : Calls Tryz.prog 32 #[.pointer (some ⟨x, 0, none⟩), .int .i64 addr] w fun e w' => e = .returned (getP 5 bs s addr) ∧ w' = w := by
  have HF := Lib.hid (find_any addr hz S)
  cases hf : s.find addr with
  | none =>
    rw [getP_none hf]
    rw [hf] at HF
    simp only [lastV] at HF
    clear S
    go_enter Tryz.func32, Tryz.ntmps32
    go_wp2_with fail
    refine HF.out.mono ?_
    rintro e w1 ⟨rfl, rfl⟩
    go_wp2
    go_ret
    exact ⟨rfl, rfl⟩
  | some i =>
    obtain ⟨u, hu, _⟩ := find_get hf
    obtain ⟨hb, S1⟩ := set_open S
    obtain ⟨b, db, hp⟩ := bs_get hb hu
    rw [getP_some hf hp hu]
    rw [hf, lastV_some hp] at HF
    unfold ptrV at HF
    obtain ⟨L, _, _⟩ := (one_open hp hu S1.s2).look
    have L5 : w.cell? ⟨b, 5, none⟩ = some (.iface (devT u.dev) (.pointer (some ⟨db, 0, none⟩))) := L 5
    have h1 := as_5 u.dev (some ⟨db, 0, none⟩)
    unfold ptrV
    generalize (if u.dev.kind = 5 then Value.pointer (some ⟨db, 0, none⟩) else .pointer none) = R at *
    generalize decide (u.dev.kind = 5) = q at *
    clear S S1 L hp hu hf
    go_enter Tryz.func32, Tryz.ntmps32
    go_wp2_with fail
    refine HF.out.mono ?_
    rintro e w1 ⟨rfl, rfl⟩
    go_wp2
    go_ret
    exact ⟨rfl, rfl⟩
end
end Go.Proofs.YtfhpaehfihnjaaaGreat
